/-
  Joined by program (merge.py): Base, RowK, RowG, Dh, Lib, Shq, Kb, RowU, Ca, Cb, Cc, Ce, Cd, Cf, Cg, Ch, Ci, Cj, Ck, Cl, Di, Pa, Kc, Rep, Da, Db, Dc, Dd, De, Df, LawA, Dg, Cm, Cn, Co, Cp, Cq, Cr, Ha, Bw, Ea, Ja, Ka, Kg, Cs, Ct, Ec, Eb, Ef, Cu, La, Lf, Lg, Ma, Ia, Ib, Ic, Lb, Lc. It shows what the single texts show; conditions: none but those of each lemma.
-/
import Derived.Test.YtonkagjdfpacmaaGreatDoorVc
import Derived.Test.YtonkagjdfpacmaaGreatDoorProg
import Derived.KernelRfl
import Derived.Test.YtonkagjdfpacmaaGreatDoorRows
import Derived.Test.YtonkagjdfpacmaaGreatDoorCards
import Derived.Test.YtonkagjdfpacmaaGreatDoorTie
import Derived.ProofKit
import Derived.OpenShut
import Derived.ShutString
import Derived.Lay
import Derived.LaidMore
import Derived.SevenTiedAt
import Derived.Lib.Walk
import Derived.Lib.Strings
import Derived.Lib.Bytealg
import Derived.Handy
import Derived.Shelf.Strconv.ErrVarAll
import Derived.Shelf.Strconv.Itoa3
import Derived.Lib.AtoiErrMem
import Derived.BigCall
import Derived.Stop.LaidErr
import Derived.Lib.LaidTab
import Derived.Lib.Builder
import Derived.Lib.AppendStr
import Derived.Lib.AppendZeros
import Derived.Lib.UnsafeStr
import Derived.Laws.Externs
import Derived.Laws.NewBlocks
import Derived.Shelf.RegionOpenPlain
import Derived.WalkKit
set_option linter.unusedVariables false
set_option linter.unusedSimpArgs false
set_option linter.unusedSectionVars false
namespace Go.Proofs.YtonkagjdfpacmaaGreatDoor
open Vx
namespace Vx
def ae:List (Nat × TI):=[
(3,⟨false,[.int .i64],8,[],0⟩),
(4,⟨false,[.bool],1,[],0⟩),
(9,⟨false,[.str],16,[],0⟩),
(36,⟨false,[.sl 9 1],24,[],9⟩),
(48,⟨false,[.sl 5 1],24,[],5⟩),
(99,⟨true,[.str,.sl 9 1],40,[(9,0),(36,1)],0⟩),
(85,⟨false,[.sl 99 2],24,[],99⟩),
(84,⟨false,[.sl 3 1],24,[],3⟩),
(89,⟨true,[.str,.int .i64],24,[(9,0),(3,1)],1⟩),
(25,⟨false,[.sl 89 2],24,[],89⟩),
(87,⟨true,[.sl 3 1,.str,.sl 99 2],64,[(84,0),(9,1),(85,2)],0⟩),
(24,⟨false,[.sl 87 3],24,[],87⟩),
(27,⟨true,[.sl 87 3,.sl 89 2],48,[(24,0),(25,1)],0⟩),
(119,⟨true,[.sl 5 1,.int .i64],32,[(48,0),(3,1)],0⟩),
(42,⟨true,[.int .i64,.str,.str,.str,.str,.int .i64,.sl 9 1],104,[(3,0),(9,1),(9,2),(9,3),(9,4),(3,5),(36,6)],0⟩),
(29,⟨false,[.sl 42 7],24,[],42⟩),
(38,⟨true,[.int .i64,.str,.str,.str,.str,.int .i64,.sl 9 1],104,[(3,0),(9,1),(9,2),(9,3),(9,4),(3,5),(36,6)],0⟩),
(22,⟨false,[.sl 38 7],24,[],38⟩),
(193,⟨true,[.str,.int .i64],24,[(9,0),(3,1)],1⟩),
(164,⟨false,[.sl 193 2],24,[],193⟩),
(237,⟨true,[.bool,.sl 9 1,.sl 9 1,.sl 9 1,.sl 9 1],104,[(4,0),(36,1),(36,2),(36,3),(36,4)],0⟩),
(242,⟨false,[.sl 237 5],24,[],237⟩),
(270,⟨false,[.sl 84 1],24,[],84⟩),
 (5,⟨false,[.int .u8],1,[],0⟩)]
theorem ak:∀ t ti,ai ae t=some ti->TOk Tryz.prog t ti:=rF (by kernel_rfl)
theorem mixed:Tryz.prog.follows .mixedOrders=true:=by kernel_rfl
def an:Nat->Inv:=fun _=>⟨Unit,fun _=>⟨[],[]⟩,fun _=>True,fun _=>0⟩
theorem Rd {α:Type} (f:Nat -> α) (d:Nat) (v:α) (h:Nat):upd f d v h=if h=d then v else f h:=rfl
def Eu (e:Nat->Option (Bool × AV)) (m:Nat->Option Blk):Nat->Option (Bool × AV):=fun t=>(e t).map fun p=>(p.1,p.2.wipe m)
def Ev (m:Nat->Option Blk):Nat->Option Blk:=fun h=>(m h).map (Blk.wipe m)
theorem RO (s:St) (m:Nat->Option Blk):s.wipe m=⟨Eu s.e m,Ev m⟩:=rfl
theorem RH (e:Nat->Option (Bool × AV)) (m:Nat->Option Blk) (t:Nat):Eu e m t=(e t).map fun p=>(p.1,p.2.wipe m):=rfl
theorem RI (m:Nat->Option Blk) (h:Nat):Ev m h=(m h).map (Blk.wipe m):=rfl
abbrev Str:=List UInt8
def al (s:Str):List D:=[.str s]
def aa (l:List Str):List (List D):=l.map al
structure FileD where
 path:Str
 text:List Str
 deriving DecidableEq,Inhabited
def am (f:FileD):List D:=[.str f.path,.sl 9 1 (aa f.text)]
def ac (l:List FileD):List (List D):=l.map am
@[simp] theorem eStrs_length (l:List Str):(aa l).length=l.length:=by simp [aa]
@[simp] theorem eStrs_nil:aa []=[]:=rfl
@[simp] theorem eStrs_get (l:List Str) (i:Nat):(aa l)[i]? = l[i]?.map al:=by simp [aa]
@[simp] theorem eStrs_getElem (l:List Str) (i:Nat) (h:i < (aa l).length):(aa l)[i]=al (l[i]'(by simpa using h)):=by simp [aa]
@[simp] theorem eStr_inj (a b:Str):(al a=al b)=(a=b):=by simp [al]
@[simp] theorem eStrs_inj (a b:List Str):(aa a=aa b)=(a=b):=by
 apply propext;constructor
 ·intro h;exact List.map_inj_right (fun x y h=>by simpa using h) |>.1 h
 ·rintro rfl; rfl
@[simp] theorem eStrs_eq_nil (a:List Str):(aa a=[])=(a=[]):=by simp [aa]
@[simp] theorem nil_eq_eStrs (a:List Str):([]=aa a)=(a=[]):=by simp [aa,eq_comm]
theorem aP (a b:List Str):aa (a++b)=aa a++aa b:=by simp [aa]
theorem aQ (a:List Str) (x:Str):aa a++[[.str x]]=aa (a++[x]):=by simp [aa,al]
theorem ba (l:List Str) (i:Nat) (s:Str):(aa l).set i [.str s]=aa (l.set i s):=by simp [aa,List.map_set,al]
theorem aO (l:List Str) (i:Nat):(aa l).take i=aa (l.take i):=by simp [aa]
theorem aR (l:List Str) (i:Nat):(aa l).drop i=aa (l.drop i):=by simp [aa]
theorem aT (n:Nat):List.replicate n [D.str []]=aa (List.replicate n []):=by simp [aa,al]
@[simp] theorem eStrs_flat (l:List Str):(∀ x ∈ aa l,∀ d ∈ x,jM d)=True:=by
 simp only [eq_iff_iff,iff_true];intro x hx d hd;simp only [aa,List.mem_map] at hx;obtain ⟨s,_,rfl⟩:=hx;simp only [al,List.mem_singleton] at hd;subst hd;trivial
@[simp] theorem eFiles_length (l:List FileD):(ac l).length=l.length:=by simp [ac]
@[simp] theorem eFiles_nil:ac []=[]:=rfl
@[simp] theorem eFiles_get (l:List FileD) (i:Nat):(ac l)[i]? = l[i]?.map am:=by simp [ac]
@[simp] theorem eFiles_getElem (l:List FileD) (i:Nat) (h:i < (ac l).length):(ac l)[i]=am (l[i]'(by simpa using h)):=by simp [ac]
@[simp] theorem eFile_inj (a b:FileD):(am a=am b)=(a=b):=by cases a; cases b; simp [am]
@[simp] theorem eFiles_inj (a b:List FileD):(ac a=ac b)=(a=b):=by
 apply propext;constructor
 ·intro h;exact List.map_inj_right (fun x y h=>by simpa using h) |>.1 h
 ·rintro rfl; rfl
@[simp] theorem eFiles_eq_nil (a:List FileD):(ac a=[])=(a=[]):=by simp [ac]
@[simp] theorem nil_eq_eFiles (a:List FileD):([]=ac a)=(a=[]):=by simp [ac,eq_comm]
theorem aS (a:List FileD) (p:Str) (t:List Str):ac a++[[.str p,.sl 9 1 (aa t)]]=ac (a++[⟨p,t⟩]):=by simp [ac,am]
theorem aU (a b:List FileD):ac (a++b)=ac a++ac b:=by simp [ac]
theorem aZ (l:List FileD) (i:Nat):(ac l).take i=ac (l.take i):=by simp [ac]
theorem aX (l:List FileD) (i:Nat):(ac l).drop i=ac (l.drop i):=by simp [ac]
theorem aN (l:List FileD) (i:Nat) (p:Str) (t:List Str):(ac l).set i [.str p,.sl 9 1 (aa t)]=ac (l.set i ⟨p,t⟩):=by simp [ac,List.map_set,am]
theorem aY (n:Nat):List.replicate n [D.str [],.sl 9 1 []]=ac (List.replicate n ⟨[],[]⟩):=by simp [ac,am]
@[simp] theorem FileD.eta (f:FileD):(⟨f.path,f.text⟩:FileD)=f:=rfl
@[simp] theorem asStr_str (s:Str):D.asStr (.str s)=s:=rfl
@[simp] theorem asRows_sl (e k:Nat) (r:List (List D)):D.asRows (.sl e k r)=r:=rfl
@[simp] theorem asInt_int (k:IntKind) (n:Int):D.asInt (.int k n)=n:=rfl
@[simp] theorem asBool_bool (b:Bool):D.asBool (.bool b)=b:=rfl
theorem aV (a b:Nat):((a:Int)=(b:Int)+1)=(a=b+1):=by apply propext; omega
theorem aL (a b:Nat):((a:Int)=(b:Int))=(a=b):=by apply propext; omega
theorem aW (a:Nat):((a:Int)=0)=(a=0):=by apply propext; omega
theorem bg {α:Type} {l:List α} {i:Nat} (h:i < l.length):l.take (i+1)=l.take i++[l[i]]:=List.take_succ_eq_append_getElem h
@[simp] theorem getD_nat (l:Str) (i:Nat) (h:i < l.length):l.getD i 0=l[i]:=by simp [List.getD_eq_getElem?_getD,h]
theorem bl {α:Type} {l:List α} {p:α -> Bool} {i:Nat} (h:i < l.length):(l.take (i+1)).all p=((l.take i).all p && p l[i]):=by rw [bg h,List.all_append]; simp
theorem iB {α:Type} {l r:List α} {i:Nat} (h1:i < l.length) (h2:i < r.length) (h:l.take i=r.take i) (he:l[i]=r[i]):l.take (i+1)=r.take (i+1):=by rw [bg h1,bg h2,h,he]
theorem gR {α:Type} {l r:List α} {i:Nat} (h0:l.length=r.length) (h1:l.length<=i) (h:l.take i=r.take i):l=r:=by
 rw [List.take_of_length_le h1,List.take_of_length_le (by omega)] at h
 exact h
theorem PM {α:Type} {o a:List α} {i:Nat} (h1:i < o.length) (h2:i < a.length) (h:o.take i=a.take i):(o.set i a[i]).take (i+1)=a.take (i+1):=by rw [bg (by simpa using h1),bg h2,List.take_set_of_le (Nat.le_refl i),h]; simp
theorem FileD.eq_iff (a b:FileD):(a=b)=(a.path=b.path/\a.text=b.text):=by cases a; cases b; simp
@[simp] theorem FileD.ex1 (p:Str) (x:List Str) (Q:FileD->Prop):(∃ a:FileD,a.path=p/\a.text=x/\Q a)=Q ⟨p,x⟩:=by
 apply propext;constructor
 ·rintro ⟨⟨a,b⟩,rfl,rfl,h⟩; exact h
 ·intro h; exact ⟨⟨p,x⟩,rfl,rfl,h⟩
@[simp] theorem FileD.ex2 (p:Str) (x:List Str) (Q:FileD->Prop):(∃ a:FileD,(a.path=p/\a.text=x)/\Q a)=Q ⟨p,x⟩:=by
 apply propext;constructor
 ·rintro ⟨⟨a,b⟩,⟨rfl,rfl⟩,h⟩; exact h
 ·intro h; exact ⟨⟨p,x⟩,⟨rfl,rfl⟩,h⟩
theorem Gq (a:Nat):((a:Int)=1)=(a=1):=by apply propext; omega
/- What unfolds a walk. -/
attribute [simp] RD dq RC Rw Rv Rx RB Rz RA Ry Kd Kf J9 JK JL JJ J0 J1 JZ JR J3 Rj Ri J5 Bj Kx Rh Rf J4 Ku Kv Kt Kr Ks JX JY fhB flB eL dR co AV.sgl ldB gc gP Bi Kq J2 ES ER EP gN EW Qj Qi Kp Ko AV.isSub EQ JI Km lf oL fQ mV AV.stolen E1 EY EX EZ Kl Kh Ki Kk Kz Ky KA mJ JO JN JP RS RY RW RV RT RU RX bj cU da calm iV im oV jW ri kU ov mD dj lY kY dV m4 e9 jy gM fe gO jZ j2 ou mvL AV.mv AV.base AV.moved wl pe wrK stK AV.selfOk AV.src TI.flat jC mF St.val St.cond St.fn St.next St.set St.trim RO RH RI mG ai eP Rd kc bH rm gm Oper.hnd Sc.st oh qc kQ bC gV ldL ld1 kJ kL ld kz ir gh kI Out.of lF kj AV.rows AV.one AV.cells AV.deepOk AV.toD gJ gC fH iP TK.zeroAV TK.zeroD byteOf inR Op.operands Call.operands eX jX ii jp eB ig jV jU iQ fG xe jT iN jj rho over ko iX iq en fI eI fY fX m2 AV.wipe AV.wipeV AV.wipe1 Blk.wipe AV.hs AV.hs.hsL fV Con.start2 Con.pk pf qr mQ iR eR Sc.from oF mN oH oI js oE mM oG CC jc qX wX hMk vY yl setRow qu jM an PS PT Kw iS AV.viewed AV.viewed1
end Vx
end Go.Proofs.YtonkagjdfpacmaaGreatDoor
namespace Go.Proofs.YtonkagjdfpacmaaGreatDoor
open Go.ChangeShapes Go.WideShapes Go.ChangeAt Go.RowKit
namespace Vx
theorem mC:ownKnob Tryz.prog.godebug=none:=by kernel_rfl
theorem laidOut:laidOutB Tryz.prog=true:=by kernel_rfl
theorem D6:rG ae=true:=by decide
theorem PR {T:Nat->Option TI} (hs:∀ te,T 9=some te->te.cells=[.str]) {ds:List D} (h:Shp T [.sl 9 1] ds):∃ l,ds=[.sl 9 1 (aa l)]:=by
 cases h with
 | @sl e k te rows ks ds h1 h2 h3 =>
  cases h3;rw [hs _ h1] at h2;obtain ⟨l,rfl,_⟩:=DG (f:=al) (p:=fun _=>True) (rows:=rows) (fun r hr=>by
   have:=h2 r hr;cases this with
   | str q1 q2=>cases q2; exact ⟨_,rfl,trivial⟩)
  exact ⟨l,rfl⟩
section
variable {H:Type} {enc:TypeId × Value->H} {W:World} {sp:Nat->Bool} {held:Bool} {r:Reach} {base:Nat}
set_option maxRecDepth 100000 in
theorem xi {v:Value} {d:DataW H} {p:List MemPlace} (hu:Tryz.prog.underlying 9=some .string) (hv:Value.okWide Tryz.prog W r base 9 v)
  (h:DataW.Trod enc Tryz.prog W 0 sp held 9 v d p):∃ l:Str,v = .string ⟨l.toArray⟩/\l.length<=maxLen:=by
 obtain ⟨s,rfl,_,_,hs⟩:=Go.ChangeMaps.open_string hu hv h;exact ⟨s.data.toList,by simp,by simpa using hs⟩
end
end Vx
end Go.Proofs.YtonkagjdfpacmaaGreatDoor
namespace Go.Proofs.YtonkagjdfpacmaaGreatDoor
namespace Vx
open Go.ChangeShapes Go.WideShapes Go.ChangeAt Go.RowKit
theorem l7:laidOutB Tryz.pinned.checked.prog=true:=by kernel_rfl
theorem mb:mapsRowed Tryz.pinned.checked.prog=true:=by kernel_rfl
theorem mc:Tryz.pinned.checked.prog.stopsHeard=true:=by kernel_rfl
theorem lZ:Tryz.pinned.checked.prog.mayEnter=true:=by kernel_rfl
theorem l8:Tryz.pinned.checked.prog.liftsFinal=false:=by kernel_rfl
theorem ma:Tryz.pinned.checked.prog.mainIs=some (Rows.fnExactRepoPlayCard.stood.harness.1,Rows.fnExactRepoPlayCard.stood.harness.2.toList):=by kernel_rfl
theorem l9:Rows.fnExactRepoPlayCard.stood.looks=Tryz.pinned.checked.prog.looks []:=by kernel_rfl
end Vx
end Go.Proofs.YtonkagjdfpacmaaGreatDoor
namespace Go.Proofs.YtonkagjdfpacmaaGreatDoor
set_option maxHeartbeats 4000000
namespace Vx
open Go.RowKit
set_option maxRecDepth 8000
def cj (n:Nat):Str:=if n < 10 then [UInt8.ofNat (48+n)] else [UInt8.ofNat (48+n / 10),UInt8.ofNat (48+n % 10)]
def uN:Con:=.fn 15 Nat (fun n=>[.int .i64 n]) (fun n=>n < 100) (fun n=>.str (cj n)) (fun _=>[])
theorem P6:Has Tryz.prog 208 uN:=by
 refine ag mixed ak HasL.nil [0,2] ((fun a n (_:Nat)=>(fun _=>an) a n)) [] Tryz.func208 (by unfold Tryz.f208; rfl) (fun _=>⟨(),trivial⟩) ?_
 intro (n:Nat) (hn:n < 100);simp -implicitDefEqProofs [uN,Con.fn,ae];refine ⟨fun h=>⟨by omega,fun a1 a2=>⟨by omega,fun a3 a4=>?_⟩⟩,fun h=>⟨by omega,fun a1 a2=>⟨by omega,fun a3 a4=>⟨by omega,fun a5 a6=>⟨by omega,fun a7 a8 a9=>?_⟩⟩⟩⟩⟩
 ·have h10:n < 10:=by omega
  clear h hn a1 a2 a3 a4;revert n
  decide
 ·rw [show ((n:Int) * 2+2).toNat - ((n:Int) * 2).toNat=2 by omega,show ((n:Int) * 2).toNat=n * 2 by omega]
  have h10:10<=n:=by omega
  clear h a1 a2 a3 a4 a5 a6 a7 a8 a9;revert h10;revert hn;revert n
  decide
def sY:Con:=.fn 54 Nat (fun n=>[.int .i64 n,.int .i64 10]) (fun n=>n < 100) (fun n=>.str (cj n)) (fun _=>[])
theorem H3:Has Tryz.prog 183 sY:=by
 refine ag mixed ak (HasL.cons P6 HasL.nil) [0,1,4,5,6,7,9] ((fun a n (_:Nat)=>(fun _=>an) a n)) [] Tryz.func183 (by unfold Tryz.f183; rfl) (fun _=>⟨(),trivial⟩) ?_
 intro (n:Nat) (hn:n < 100);simp -implicitDefEqProofs [sY,uN,Con.fn,ae];refine ⟨fun _=>⟨n,rfl,hn,rfl⟩,fun h=>absurd h (by omega)⟩
def tu:Con:=.fn 5 Nat (fun n=>[.int .i64 n]) (fun n=>n < 100) (fun n=>.str (cj n)) (fun _=>[])
theorem Jy:Has Tryz.prog 158 tu:=by
 refine ag mixed ak (HasL.cons H3 HasL.nil) [0,2] ((fun a n (_:Nat)=>(fun _=>an) a n)) [] Tryz.func158 (by unfold Tryz.f158; rfl) (fun _=>⟨(),trivial⟩) ?_
 intro (n:Nat) (hn:n < 100);simp -implicitDefEqProofs [tu,Con.fn,ae,sY]
 try dsimp only
 try simp +contextual -implicitDefEqProofs [al,am,aV,aL,aW,List.getElem?_eq_getElem,ba,aN,aT,aY,<- aP,<- aU,aO,aR,aZ,aX,aQ,aS,and_assoc]
 repeat' (first | intro _ | apply And.intro)
 all_goals first | omega | grind [bl]
def tr:Con:=.fn 5 Nat (fun n=>[.int .i64 n]) (fun n=>n < 100) (fun n=>.str (cj n)) (fun _=>[])
theorem JA:Has Tryz.prog 105 tr:=by
 refine ag mixed ak (HasL.cons Jy HasL.nil) [0,2] ((fun a n (_:Nat)=>(fun _=>an) a n)) [] Tryz.func105 (by unfold Tryz.f105; rfl) (fun _=>⟨(),trivial⟩) ?_
 intro (n:Nat) (hn:n < 100);simp -implicitDefEqProofs [tr,Con.fn,ae,tu]
 try dsimp only
 try simp +contextual -implicitDefEqProofs [al,am,aV,aL,aW,List.getElem?_eq_getElem,ba,aN,aT,aY,<- aP,<- aU,aO,aR,aZ,aX,aQ,aS,and_assoc]
 repeat' (first | intro _ | apply And.intro)
 all_goals first | omega | grind [bl]
theorem Ax {P:Program} {f:Nat} {fn:Func} {code:Code} {k:Con} (hf:P.funcs[f]? = some fn) (hname:(fn.name == "runtime.NumGoroutine")=false) (hb:fn.body=some code) (tot:∀ a,∃ x,k.post a x) (nob:k.nob=true -> ∀ a,k.boxes a=[]) (hp:∀ a,¬ k.pre a) (hbd:k.bld=(0,0,0,0):=by rfl) (hbt:k.bty=[]:=by rfl):Has P f k :=
 ⟨fun args w=>Go.MuLone.run_callFunc_enter hf hname hb args w,tot,nob,fun a ha=>absurd ha (hp a),by rw [hbd]; trivial,.inl hbt⟩
def zl:Con:=.fn 28 Nat (fun n=>[.int .i64 n]) (fun _=>False) (fun n=>.str (cj n)) (fun _=>[])
theorem KM:Has Tryz.prog 60 zl :=
 Ax Tryz.func60 (by kernel_rfl) (code:=_) (by unfold Tryz.f60; rfl) (fun _=>⟨(),trivial⟩) (by intro _ _; rfl) (fun _ h=>h)
def tF:Con:=.fn 28 Nat (fun n=>[.int .i64 n]) (fun n=>n < 10) (fun n=>.str (cj n)) (fun _=>[])
theorem KN:Has Tryz.prog 60 tF:=by
 refine ag mixed ak (HasL.cons KM HasL.nil) [0,2] ((fun a n (_:Nat)=>(fun _=>an) a n)) [] Tryz.func60 (by unfold Tryz.f60; rfl) (fun _=>⟨(),trivial⟩) ?_
 intro (n:Nat) (hn:n < 10);simp -implicitDefEqProofs [tF,zl,Con.fn,ae];refine ⟨fun h=>absurd h (by omega),fun h=>absurd h (by omega),fun h=>⟨by omega,fun _ _=>⟨by omega,fun _ _=>⟨by omega,fun _=>?_⟩⟩⟩,fun h=>absurd h (by omega)⟩
 rw [show (48+(n:Int)).toNat=48+n by omega]
 simp -implicitDefEqProofs [cj,hn]
def tE:Con:=.fn 28 Nat (fun n=>[.int .i64 n]) (fun n=>n < 100) (fun n=>.str (cj n)) (fun _=>[])
theorem KP:Has Tryz.prog 60 tE:=by
 refine ag mixed ak (HasL.cons KN HasL.nil) [0,2] ((fun a n (_:Nat)=>(fun _=>an) a n)) [] Tryz.func60 (by unfold Tryz.f60; rfl) (fun _=>⟨(),trivial⟩) ?_
 intro (n:Nat) (hn:n < 100);simp -implicitDefEqProofs [tE,tF,Con.fn,ae];have hm:(n:Int).tmod 10=((n % 10:Nat):Int):=(Int.ofNat_tmod n 10).symm;rw [hm];refine ⟨fun h=>absurd h (by omega),fun h=>absurd h (by omega),fun h=>⟨by omega,fun _ _=>⟨by omega,fun _ _=>⟨by omega,fun _=>?_⟩⟩⟩,fun h=>⟨by omega,fun _ _=>⟨n / 10,by omega,by omega,by omega,fun _ _=>⟨by omega,fun _ _=>⟨by omega,fun _=>?_⟩⟩⟩⟩⟩
 ·rw [show (48+(n:Int)).toNat=48+n by omega]
  simp -implicitDefEqProofs [cj,show n < 10 by omega]
 ·have h1:cj (n / 10)=[UInt8.ofNat (48+n / 10)]:=by simp -implicitDefEqProofs [cj,show n / 10 < 10 by omega]
  rw [h1];refine ⟨by simp -implicitDefEqProofs [maxLen],fun _=>?_⟩
  rw [show (48+((n % 10:Nat):Int)).toNat=48+n % 10 by omega]
  simp -implicitDefEqProofs [cj,show ¬ n < 10 by omega]
def fN:AV->Option Value
 | .int k n=>some (.int k n)
 | .bool b=>some (.bool b)
 | .str s=>some (.string ⟨s.toArray⟩)
 | _=>none
theorem PC {w m β c v x u} (h:RelL w m β c [v] [u]) (hs:fN v=some x):u=x:=by
 cases v <;> simp only [fN,Option.some.injEq,reduceCtorEq] at hs
 all_goals cases h; exact hs
theorem xI {w m β c}:∀ {vs:List AV} {us xs:List Value},RelL w m β c vs us->vs.mapM fN=some xs->us=xs:=by
 intro vs
 induction vs with
 | nil=>intro us xs h hm; cases h; simp at hm; exact hm.symm
 | cons v vs ih =>
  intro us xs h hm;obtain ⟨u,us',rfl,h1,h2⟩:=h.uncons;rw [List.mapM_cons] at hm;cases hv:fN v with
  | none=>rw [hv] at hm; simp at hm
  | some x =>
   rw [hv] at hm;cases hvs:vs.mapM fN with
   | none=>rw [hvs] at hm; simp at hm
   | some ys =>
    rw [hvs] at hm;simp at hm;subst hm;rw [PC h1 hv,ih h2 hvs]
theorem O0 {w m β c v x} (hs:fN v=some x) (hok:∀ s,v = .str s->s.length<=maxLen):RelL w m β c [v] [x]:=by
 cases v <;> simp only [fN,Option.some.injEq,reduceCtorEq] at hs
 all_goals subst hs
 ·exact .int .lnil
 ·exact .bool .lnil
 ·exact .str (hok _ rfl) .lnil
theorem j6 {c:Cx} {k:Con} {x:k.A} {vs:List Value} {w β fp} (hl:vs.length=(k.args x).length) (S:SatI c (k.start2 x) ⟨vs.toArray++Array.replicate (k.n - vs.length) undef,[]⟩ w β fp) :
  RelL w (k.start2 x).m β c (k.args x) vs:=by
 have key:∀ (i:Nat) (v:AV) (u:Value),(k.args x)[i]? = some v->vs[i]? = some u->RelL w (k.start2 x).m β c [v] [u]:=by
  intro i v u hv hu;have:=(S.env i true v (by simp [Con.start2,hv])).2.1 rfl
  have hi:i < vs.length:=(List.getElem?_eq_some_iff.1 hu).1;have e:(vs.toArray++Array.replicate (k.n - vs.length) undef).getD i undef=u:=by
   rw [Array.getD_eq_getD_getElem?,Array.getElem?_append_left (by simpa using hi)]
   simp [hu]
  rw [e] at this;exact this
 clear S;generalize k.args x=xs at hl key
 induction xs generalizing vs with
 | nil=>cases vs with | nil=>exact .lnil | cons=>simp at hl
 | cons v xs ih =>
  cases vs with
  | nil=>simp at hl
  | cons u vs =>
   exact (key 0 v u rfl rfl).append (ih (by simpa using hl) fun i v' u' h1 h2=>key (i+1) v' u' h1 h2)
theorem v6 {P:Program} {f:Nat} {n:Nat} {A:Type} {args:A->List AV} {pre:A->Prop} {res:A->AV} {rv:A->Value}
  (henter:∀ args w,(callFunc f args).run P w = .ok (.enter f args) w) (hres:∀ a,fN (res a)=some (rv a)) (hstr:∀ a s,pre a->res a = .str s->s.length<=maxLen)
  (h:∀ a vs w,pre a->(args a).mapM fN=some vs->Calls P f vs.toArray w fun e w'=>e = .returned (rv a)/\w'=w) (hsc:∀ a,∃ vs,(args a).mapM fN=some vs) :
  Has P f (.fn n A args pre res (fun _=>[])):=by
 refine ⟨henter,fun _=>⟨(),trivial⟩,fun _ _=>rfl,?_,trivial,.inl rfl⟩;intro a hp c _ vs β fp hcn hpins hl1 hl2 S;obtain ⟨us,hus⟩:=hsc a;have hvs:vs=us:=xI (j6 hl1 S) hus;subst hvs;refine (h a vs c.w0 hp hus).mono ?_;rintro e w' ⟨rfl,rfl⟩;refine ⟨(),trivial,rv a,rfl,β,fp,⟨Array.replicate c.n undef,[]⟩,⟨?_,?_,?_,?_,?_,S.fg,S.old,S.os,S.tape,S.output,S.size,rfl,by simp,?_⟩,?_⟩
 ·intro t g av ht; cases ht
 ·intro h blk hm; cases hm
 ·intro h blk hm; cases hm
 ·intro h h' blk blk' hm; cases hm
 ·intro h blk hm; cases hm
 ·rw [hpins]; intro p hp; simp [Con.pins2] at hp
 ·exact O0 (hres a) (fun s hs=>hstr a s hp hs)
set_option maxHeartbeats 1000000 in
set_option maxRecDepth 100000 in
theorem Ji (s:ByteArray) (c:Int) (w:World) :
  Calls Tryz.prog 184 #[.string s,.int .u8 c] w fun e w'=>e = .returned (.int .i64 (Lib.indexByte s.data.toList c.toNat.toUInt8))/\w'=w:=by
 go_enter Tryz.func184,Tryz.ntmps184
 go_wp2
 rw [run_callFunc_extern Tryz.func212 (by kernel_rfl) (by kernel_rfl) (by kernel_rfl) (e:=Extern.BytealgIndexByte.indexByte) (by kernel_rfl),Lib.run_indexByteString]
 simp only [Result.andThen];rw [Oper.upon_value]
 go_wp2
 go_ret
 exact ⟨rfl,rfl⟩
set_option maxHeartbeats 2000000 in
set_option maxRecDepth 100000 in
theorem AM (s:ByteArray) (c:UInt8) (w:World) :
  Calls Tryz.prog 159 #[.string s,.string ⟨#[c]⟩] w fun e w'=>e = .returned (.int .i64 (Lib.indexByte s.data.toList c))/\w'=w:=by
 go_enter Tryz.func159,Tryz.ntmps159
 go_wp2_with (go_at_call 184; refine (Ji _ _ _).mono ?_; rintro e w' ⟨rfl,rfl⟩)
 ·have h:([c] == s.toList)=true:=by assumption
  go_ret
  refine ⟨?_,rfl⟩;have e:s.data.toList=[c]:=by rw [<- Lib.toList_data]; exact (beq_iff_eq.1 h).symm
  rw [e];simp [Lib.indexByte]
 ·go_ret
  exact ⟨rfl,rfl⟩
set_option maxHeartbeats 2000000 in
set_option maxRecDepth 100000 in
theorem Qu (s:ByteArray) (c:UInt8) (w:World) :
  Calls Tryz.prog 153 #[.string s,.string ⟨#[c]⟩] w fun e w'=>e = .returned (.int .i64 (Lib.indexByte s.data.toList c))/\w'=w:=by
 go_enter Tryz.func153,Tryz.ntmps153
 go_wp2_with (go_at_call 159; refine (AM _ _ _).mono ?_; rintro e w' ⟨rfl,rfl⟩)
 go_ret
 exact ⟨rfl,rfl⟩
set_option maxHeartbeats 1000000 in
set_option maxRecDepth 100000 in
theorem GR (s:ByteArray) (c:UInt8) (w:World) :
  Calls Tryz.prog 189 #[.string s,.string ⟨#[c]⟩] w fun e w'=>e = .returned (.int .i64 (Lib.countByte s.data.toList c))/\w'=w:=by
 go_enter Tryz.func189,Tryz.ntmps189
 go_wp2
 rw [run_callFunc_extern Tryz.func216 (by kernel_rfl) (by kernel_rfl) (by kernel_rfl) (e:=Extern.BytealgCount.count) (by kernel_rfl),Lib.run_countString]
 simp only [Result.andThen];rw [Oper.upon_value]
 go_wp2
 go_ret
 exact ⟨rfl,rfl⟩
def aw:Str->UInt8->Int
 | [],_=>-1
 | b :: l,c=>if b=c then 0 else if aw l c < 0 then -1 else aw l c+1
theorem AJ (s:Str) (c:UInt8):Lib.indexByte s c=aw s c:=by
 induction s with
 | nil=>rfl
 | cons b l ih =>
  have hge:=Lib.indexByte_ge l c;simp only [Lib.indexByte,aw,ih] at hge ⊢;by_cases hb:b=c
  ·simp [hb]
  ·simp only [beq_iff_eq,hb,if_false];by_cases h:aw l c < 0
   ·rw [if_pos h,if_pos (by omega)]
   ·rw [if_neg h,if_neg (by omega)]
def pY:Con:=.fn 8 (Str × UInt8) (fun a=>[.str a.1,.str [a.2]]) (fun _=>True) (fun a=>.int .i64 (aw a.1 a.2)) (fun _=>[])
theorem xT:Has Tryz.prog 153 pY :=
 v6 (rv:=fun a=>.int .i64 (aw a.1 a.2)) (fun args w=>Go.MuLone.run_callFunc_enter Tryz.func153 (by kernel_rfl) rfl args w) (fun _=>rfl) (fun a s _ h=>by cases h)
  (fun a vs w _ hv=>by
   obtain ⟨s,c⟩:=a;simp [fN] at hv;subst hv;have:=Qu ⟨s.toArray⟩ c w
   simpa [AJ] using this) (fun a=>⟨_,rfl⟩)
def zp:Con:=.fn 34 (Str × UInt8) (fun a=>[.str a.1,.str [a.2]]) (fun _=>True) (fun a=>.int .i64 (a.1.count a.2)) (fun _=>[])
theorem Qt:Has Tryz.prog 189 zp :=
 v6 (rv:=fun a=>.int .i64 (a.1.count a.2)) (fun args w=>Go.MuLone.run_callFunc_enter Tryz.func189 (by kernel_rfl) rfl args w) (fun _=>rfl) (fun a s _ h=>by cases h)
  (fun a vs w _ hv=>by
   obtain ⟨s,c⟩:=a;simp [fN] at hv;subst hv;have:=GR ⟨s.toArray⟩ c w
   simpa [Lib.countByte] using this) (fun a=>⟨_,rfl⟩)
end Vx
end Go.Proofs.YtonkagjdfpacmaaGreatDoor
/-
  DERIVED: THE SHELF's CONTRACTS AT THIS DUMP, IN PLAIN WORDS (tools/lay-plain.mjs out of 'YtonkagjdfpacmaaGreatDoorShelf.lean', which tools/lay-shelf.mjs wrote): THE SAME DECLARATIONS UNDER THE SAME NAMES: 'import', 'namespace', 'open', 'def', 'theorem' AND NOTHING ELSE: no command of the shelf's: FOR A HAND-IN. Each laying: the table of numbers ('.._ren') and one theorem, a field a fact of the dump's own or the kernel's comparison; each contract: ONE APPLICATION.
-/
namespace Go.Proofs
open Go.Shelf
def Tryz.laysItoa_ren:Go.Shelf.Ren:=⟨fun | 171=>105 | 243=>158 | 246=>183 | 283=>208 | 284=>209 | 285=>210 | 286=>211 | 129=>231 | 317=>230 | 318=>232 | 319=>233 | 320=>234 | 337=>250 | 338=>251 | n=>n,fun | 3=>3 | 9=>9 | 2=>2 | 4=>4 | 171=>200 | 0=>0 | 53=>201 | 37=>48 | 5=>5 | 173=>204 | 212=>226 | 51=>156 | 20=>20 | 213=>227 | 46=>157 | 232=>262 | 233=>263 | n=>n,fun | 17=>3 | 18=>6 | 19=>7 | n=>n⟩
theorem Tryz.laysItoa:Go.Proofs.LaysM.n171 Tryz.prog Tryz.laysItoa_ren:={
  mixed:=by kernel_rfl
  f129:=Tryz.func231.trans (congrArg some (by kernel_rfl))
  f171:=Tryz.func105.trans (congrArg some (by kernel_rfl))
  f243:=Tryz.func158.trans (congrArg some (by kernel_rfl))
  f246:=Tryz.func183.trans (congrArg some (by kernel_rfl))
  f283:=Tryz.func208.trans (congrArg some (by kernel_rfl))
  f284:=Tryz.func209.trans (congrArg some (by kernel_rfl))
  f285:=Tryz.func210.trans (congrArg some (by kernel_rfl))
  f286:=Tryz.func211.trans (congrArg some (by kernel_rfl))
  f317:=Tryz.func230.trans (congrArg some (by kernel_rfl))
  f318:=Tryz.func232.trans (congrArg some (by kernel_rfl))
  f319:=Tryz.func233.trans (congrArg some (by kernel_rfl))
  f320:=Tryz.func234.trans (congrArg some (by kernel_rfl))
  f337:=Tryz.func250.trans (congrArg some (by kernel_rfl))
  f338:=Tryz.func251.trans (congrArg some (by kernel_rfl))
  t0:=Tryz.underlying0
  a0:=Tryz.isAgg0
  z0:=Tryz.sizeOf0
  v0:=Tryz.zeroValue0
  t2:=Tryz.underlying2
  a2:=Tryz.isAgg2
  z2:=Tryz.sizeOf2
  v2:=Tryz.zeroValue2
  t3:=Tryz.underlying3
  a3:=Tryz.isAgg3
  z3:=Tryz.sizeOf3
  v3:=Tryz.zeroValue3
  t4:=Tryz.underlying4
  a4:=Tryz.isAgg4
  z4:=Tryz.sizeOf4
  v4:=Tryz.zeroValue4
  t5:=Tryz.underlying5
  a5:=Tryz.isAgg5
  z5:=Tryz.sizeOf5
  v5:=Tryz.zeroValue5
  t9:=Tryz.underlying9
  a9:=Tryz.isAgg9
  z9:=Tryz.sizeOf9
  v9:=Tryz.zeroValue9
  t20:=Tryz.underlying20
  a20:=Tryz.isAgg20
  z20:=Tryz.sizeOf20
  v20:=Tryz.zeroValue20
  t37:=Tryz.underlying48
  a37:=Tryz.isAgg48
  z37:=Tryz.sizeOf48
  v37:=Tryz.zeroValue48
  t46:=Tryz.underlying157
  a46:=Tryz.isAgg157
  z46:=Tryz.sizeOf157
  v46:=Tryz.zeroValue157
  t51:=Tryz.underlying156
  a51:=Tryz.isAgg156
  z51:=Tryz.sizeOf156
  v51:=Tryz.zeroValue156
  t53:=Tryz.underlying201
  a53:=Tryz.isAgg201
  z53:=Tryz.sizeOf201
  v53:=Tryz.zeroValue201
  t171:=Tryz.underlying200
  a171:=Tryz.isAgg200
  z171:=Tryz.sizeOf200
  v171:=Tryz.zeroValue200
  t173:=Tryz.underlying204
  a173:=Tryz.isAgg204
  z173:=Tryz.sizeOf204
  v173:=Tryz.zeroValue204
  t212:=Tryz.underlying226
  a212:=Tryz.isAgg226
  z212:=Tryz.sizeOf226
  v212:=Tryz.zeroValue226
  t213:=Tryz.underlying227
  a213:=Tryz.isAgg227
  z213:=Tryz.sizeOf227
  t232:=Tryz.underlying262
  a232:=Tryz.isAgg262
  z232:=Tryz.sizeOf262
  v232:=Tryz.zeroValue262
  t233:=Tryz.underlying263
  a233:=Tryz.isAgg263
  z233:=Tryz.sizeOf263
  v233:=Tryz.zeroValue263
  g17:=by kernel_rfl
  g18:=by kernel_rfl
  g19:=by kernel_rfl
  i0:=by kernel_rfl
  i2:=by kernel_rfl
  i3:=by kernel_rfl
  i4:=by kernel_rfl
  i5:=by kernel_rfl
  i9:=by kernel_rfl
  i20:=by kernel_rfl
  i37:=by kernel_rfl
  i46:=by kernel_rfl
  i51:=by kernel_rfl
  i53:=by kernel_rfl
  i171:=by kernel_rfl
  i173:=by kernel_rfl
  i212:=by kernel_rfl
  i232:=by kernel_rfl
  i233:=by kernel_rfl
  m17:=by kernel_rfl
  m18:=by kernel_rfl
  m19:=by kernel_rfl }
def Tryz.laysAtoi_ren:Go.Shelf.Ren:=⟨fun | 172=>113 | 244=>161 | 245=>162 | 247=>190 | 279=>191 | 280=>192 | 281=>193 | 282=>194 | 287=>217 | 316=>218 | 171=>105 | 205=>219 | 321=>236 | 322=>237 | 243=>158 | 246=>183 | 283=>208 | 284=>209 | 285=>210 | 286=>211 | 129=>231 | 317=>230 | 318=>232 | 319=>233 | 320=>234 | 337=>250 | 338=>251 | n=>n,fun | 9=>9 | 3=>3 | 75=>125 | 76=>126 | 4=>4 | 5=>5 | 167=>178 | 37=>48 | 0=>0 | 85=>179 | 2=>2 | 168=>181 | 53=>201 | 175=>210 | 46=>157 | 210=>213 | 127=>174 | 145=>232 | 143=>230 | 21=>21 | 171=>200 | 173=>204 | 212=>226 | 51=>156 | 20=>20 | 213=>227 | 232=>262 | 233=>263 | 80=>155 | n=>n,fun | 15=>1 | 16=>2 | 17=>3 | 18=>6 | 19=>7 | n=>n⟩
theorem Tryz.laysAtoi:Go.Proofs.LaysC.n172 Tryz.prog Tryz.laysAtoi_ren:={
  mixed:=by kernel_rfl
  f129:=Tryz.func231.trans (congrArg some (by kernel_rfl))
  f171:=Tryz.func105.trans (congrArg some (by kernel_rfl))
  f172:=Tryz.func113.trans (congrArg some (by kernel_rfl))
  f205:=Tryz.func219.trans (congrArg some (by kernel_rfl))
  f243:=Tryz.func158.trans (congrArg some (by kernel_rfl))
  f244:=Tryz.func161.trans (congrArg some (by kernel_rfl))
  f245:=Tryz.func162.trans (congrArg some (by kernel_rfl))
  f246:=Tryz.func183.trans (congrArg some (by kernel_rfl))
  f247:=Tryz.func190.trans (congrArg some (by kernel_rfl))
  f279:=Tryz.func191.trans (congrArg some (by kernel_rfl))
  f280:=Tryz.func192.trans (congrArg some (by kernel_rfl))
  f281:=Tryz.func193.trans (congrArg some (by kernel_rfl))
  f282:=Tryz.func194.trans (congrArg some (by kernel_rfl))
  f283:=Tryz.func208.trans (congrArg some (by kernel_rfl))
  f284:=Tryz.func209.trans (congrArg some (by kernel_rfl))
  f285:=Tryz.func210.trans (congrArg some (by kernel_rfl))
  f286:=Tryz.func211.trans (congrArg some (by kernel_rfl))
  f287:=Tryz.func217.trans (congrArg some (by kernel_rfl))
  f316:=Tryz.func218.trans (congrArg some (by kernel_rfl))
  f317:=Tryz.func230.trans (congrArg some (by kernel_rfl))
  f318:=Tryz.func232.trans (congrArg some (by kernel_rfl))
  f319:=Tryz.func233.trans (congrArg some (by kernel_rfl))
  f320:=Tryz.func234.trans (congrArg some (by kernel_rfl))
  f321:=Tryz.func236.trans (congrArg some (by kernel_rfl))
  f322:=Tryz.func237.trans (congrArg some (by kernel_rfl))
  f337:=Tryz.func250.trans (congrArg some (by kernel_rfl))
  f338:=Tryz.func251.trans (congrArg some (by kernel_rfl))
  t0:=Tryz.underlying0
  a0:=Tryz.isAgg0
  z0:=Tryz.sizeOf0
  v0:=Tryz.zeroValue0
  t2:=Tryz.underlying2
  a2:=Tryz.isAgg2
  z2:=Tryz.sizeOf2
  v2:=Tryz.zeroValue2
  t3:=Tryz.underlying3
  a3:=Tryz.isAgg3
  z3:=Tryz.sizeOf3
  v3:=Tryz.zeroValue3
  t4:=Tryz.underlying4
  a4:=Tryz.isAgg4
  z4:=Tryz.sizeOf4
  v4:=Tryz.zeroValue4
  t5:=Tryz.underlying5
  a5:=Tryz.isAgg5
  z5:=Tryz.sizeOf5
  v5:=Tryz.zeroValue5
  t9:=Tryz.underlying9
  a9:=Tryz.isAgg9
  z9:=Tryz.sizeOf9
  v9:=Tryz.zeroValue9
  t20:=Tryz.underlying20
  a20:=Tryz.isAgg20
  z20:=Tryz.sizeOf20
  v20:=Tryz.zeroValue20
  t21:=Tryz.underlying21
  a21:=Tryz.isAgg21
  z21:=Tryz.sizeOf21
  v21:=Tryz.zeroValue21
  t37:=Tryz.underlying48
  a37:=Tryz.isAgg48
  z37:=Tryz.sizeOf48
  v37:=Tryz.zeroValue48
  t46:=Tryz.underlying157
  a46:=Tryz.isAgg157
  z46:=Tryz.sizeOf157
  v46:=Tryz.zeroValue157
  t51:=Tryz.underlying156
  a51:=Tryz.isAgg156
  z51:=Tryz.sizeOf156
  v51:=Tryz.zeroValue156
  t53:=Tryz.underlying201
  a53:=Tryz.isAgg201
  z53:=Tryz.sizeOf201
  v53:=Tryz.zeroValue201
  t75:=Tryz.underlying125
  a75:=Tryz.isAgg125
  z75:=Tryz.sizeOf125
  v75:=Tryz.zeroValue125
  t76:=Tryz.underlying126
  a76:=Tryz.isAgg126
  z76:=Tryz.sizeOf126
  v76:=Tryz.zeroValue126
  t85:=Tryz.underlying179
  a85:=Tryz.isAgg179
  z85:=Tryz.sizeOf179
  v85:=Tryz.zeroValue179
  t127:=Tryz.underlying174
  a127:=Tryz.isAgg174
  z127:=Tryz.sizeOf174
  v127:=Tryz.zeroValue174
  t143:=Tryz.underlying230
  a143:=Tryz.isAgg230
  z143:=Tryz.sizeOf230
  v143:=Tryz.zeroValue230
  t145:=Tryz.underlying232
  a145:=Tryz.isAgg232
  z145:=Tryz.sizeOf232
  v145:=Tryz.zeroValue232
  t167:=Tryz.underlying178
  a167:=Tryz.isAgg178
  z167:=Tryz.sizeOf178
  v167:=Tryz.zeroValue178
  t168:=Tryz.underlying181
  a168:=Tryz.isAgg181
  z168:=Tryz.sizeOf181
  v168:=Tryz.zeroValue181
  t171:=Tryz.underlying200
  a171:=Tryz.isAgg200
  z171:=Tryz.sizeOf200
  v171:=Tryz.zeroValue200
  t173:=Tryz.underlying204
  a173:=Tryz.isAgg204
  z173:=Tryz.sizeOf204
  v173:=Tryz.zeroValue204
  t175:=Tryz.underlying210
  a175:=Tryz.isAgg210
  z175:=Tryz.sizeOf210
  v175:=Tryz.zeroValue210
  t210:=Tryz.underlying213
  a210:=Tryz.isAgg213
  z210:=Tryz.sizeOf213
  v210:=Tryz.zeroValue213
  t212:=Tryz.underlying226
  a212:=Tryz.isAgg226
  z212:=Tryz.sizeOf226
  v212:=Tryz.zeroValue226
  t213:=Tryz.underlying227
  a213:=Tryz.isAgg227
  z213:=Tryz.sizeOf227
  t232:=Tryz.underlying262
  a232:=Tryz.isAgg262
  z232:=Tryz.sizeOf262
  v232:=Tryz.zeroValue262
  t233:=Tryz.underlying263
  a233:=Tryz.isAgg263
  z233:=Tryz.sizeOf263
  v233:=Tryz.zeroValue263
  g15:=by kernel_rfl
  g16:=by kernel_rfl
  g17:=by kernel_rfl
  g18:=by kernel_rfl
  g19:=by kernel_rfl
  t80:=Tryz.underlying155
  a80:=Tryz.isAgg155
  z80:=Tryz.sizeOf155
  v80:=Tryz.zeroValue155
  i0:=by kernel_rfl
  i2:=by kernel_rfl
  i3:=by kernel_rfl
  i4:=by kernel_rfl
  i5:=by kernel_rfl
  i9:=by kernel_rfl
  i20:=by kernel_rfl
  i21:=by kernel_rfl
  i37:=by kernel_rfl
  i46:=by kernel_rfl
  i51:=by kernel_rfl
  i53:=by kernel_rfl
  i75:=by kernel_rfl
  i76:=by kernel_rfl
  i80:=by kernel_rfl
  i85:=by kernel_rfl
  i127:=by kernel_rfl
  i143:=by kernel_rfl
  i145:=by kernel_rfl
  i167:=by kernel_rfl
  i168:=by kernel_rfl
  i171:=by kernel_rfl
  i173:=by kernel_rfl
  i175:=by kernel_rfl
  i210:=by kernel_rfl
  i212:=by kernel_rfl
  i232:=by kernel_rfl
  i233:=by kernel_rfl
  m15:=by kernel_rfl
  m16:=by kernel_rfl
  m17:=by kernel_rfl
  m18:=by kernel_rfl
  m19:=by kernel_rfl
  c0:=by kernel_rfl
  c2:=by kernel_rfl
  c3:=by kernel_rfl
  c4:=by kernel_rfl
  c5:=by kernel_rfl
  c9:=by kernel_rfl
  c20:=by kernel_rfl
  c21:=by kernel_rfl
  c37:=by kernel_rfl
  c46:=by kernel_rfl
  c51:=by kernel_rfl
  c53:=by kernel_rfl
  c75:=by kernel_rfl
  c76:=by kernel_rfl
  c80:=by kernel_rfl
  c85:=by kernel_rfl
  c127:=by kernel_rfl
  c143:=by kernel_rfl
  c145:=by kernel_rfl
  c167:=by kernel_rfl
  c168:=by kernel_rfl
  c171:=by kernel_rfl
  c173:=by kernel_rfl
  c175:=by kernel_rfl
  c210:=by kernel_rfl
  c212:=by kernel_rfl
  c213:=by kernel_rfl
  c232:=by kernel_rfl
  c233:=by kernel_rfl }
end Go.Proofs
namespace Go.Proofs.YtonkagjdfpacmaaGreatDoor
namespace Vx
open Go.RowKit Go.Shelf
set_option maxRecDepth 8000
def ew (w:World):Prop :=
 (∃ tp p,w.var? Tryz.prog "strconv.ErrSyntax" = some #[.iface tp p])/\(∃ tp p,w.var? Tryz.prog "strconv.ErrRange" = some #[.iface tp p]) /\
 ∃ e fz,w.heap[3]? = some (.cells (Lib.pow10Tab.map fun z=>Value.int .u64 z).toArray e fz)
theorem On {w:World} {e fz} (h:w.heap[3]? = some (.cells (Lib.pow10Tab.map fun z=>Value.int .u64 z).toArray e fz)) (n:Int) (h0:-9223372036854775808<=n) (h1:n<=9223372036854775807) :
  Calls Tryz.prog 105 #[.int .i64 n] w fun e w'=>e = .returned (.string ⟨(Lib.itoa n).toArray⟩)/\Below w.heap.size w w':=by
 refine (Any.strconv_Itoa Tryz.laysItoa n h0 h1 w ?_).mono ?_
 ·unfold Lib.TabIs World.var?;generalize hg:Tryz.prog.globalNamed _=o;have:o=some 3:=by rw [<- hg]; kernel_rfl
  rw [this];simp only [Option.bind_some,h]
 ·rintro e w' ⟨rfl,k,os,rfl⟩;refine ⟨rfl,rfl,rfl,rfl,?_,fun b hb=>?_⟩
  ·simp [Go.Sort.grow,World.drewN]
  ·simp only [Go.Sort.grow,World.drewN];exact Array.getElem?_append_left hb
end Vx
end Go.Proofs.YtonkagjdfpacmaaGreatDoor
namespace Go.Proofs.YtonkagjdfpacmaaGreatDoor
open Go.ChangeShapes Go.WideShapes Go.ChangeAt Go.RowKit
namespace Vx
set_option maxRecDepth 100000
theorem DW:("*" ++ "errors.errorString" : String) = "*errors.errorString" := by decide
theorem DD (u:TypeId) (h:Tryz.prog.typeName? 3 u=some "*errors.errorString"):u=230 :=
 typeName_ptr_named (nm := "errors.errorString") (by rw [DW]; kernel_rfl) (by kernel_rfl) (by decide) u (by rw [DW]; exact h)
theorem mr {W:World} {x1 x2 x4:String × DataW Unit} {nm:String} {r:List (String × DataW Unit)} (hg:Tryz.prog.globalNamed nm=some 3)
  (h:laidMet Tryz.prog (x1 :: x2 :: (nm,Rows.laid_internal_strconv_uint64pow10) :: x4 :: ("strconv.ErrRange", Rows.laid_strconv_ErrRange) :: ("strconv.ErrSyntax", Rows.laid_strconv_ErrSyntax) :: r) W) :
  ∀ w:World,(∀ b,b < W.heap.size->w.heap[b]? = W.heap[b]?)->ew w:=by
 have tab:Lib.TabIs Tryz.prog W nm .u64 Lib.pow10Tab:=Lib.tabIs_of_head (t:=226) (e:=201) (n:=20) hg (by kernel_rfl) Tryz.underlying226 Tryz.underlying201 (by kernel_rfl) (by kernel_rfl) h.tail.tail
 obtain ⟨a0,s0,hv0,-,-,-⟩:=laid_sentinel (ti:=125) (g:=2) h.tail.tail.tail.tail (by kernel_rfl) (by kernel_rfl) Tryz.underlying125 DD Tryz.underlying230 Tryz.underlying232 rfl rfl Tryz.underlying9 (by kernel_rfl) (by kernel_rfl)
 obtain ⟨a1,s1,hv1,-,-,-⟩:=laid_sentinel (ti:=125) (g:=1) h.tail.tail.tail.tail.tail (by kernel_rfl) (by kernel_rfl) Tryz.underlying125 DD Tryz.underlying230 Tryz.underlying232 rfl rfl Tryz.underlying9 (by kernel_rfl) (by kernel_rfl)
 have key:∀ {nm:String} {cs:Array Value} {w:World},(∀ b,b < W.heap.size->w.heap[b]? = W.heap[b]?)->W.var? Tryz.prog nm=some cs->w.var? Tryz.prog nm=some cs:=by
  intro nm cs w hw hv;unfold World.var? at hv ⊢;cases hgn:Tryz.prog.globalNamed nm with
  | none=>rw [hgn] at hv; cases hv
  | some g =>
   rw [hgn] at hv;simp only [Option.bind_some] at hv ⊢;have hlt:g < W.heap.size:=by
    rcases Nat.lt_or_ge g W.heap.size with q | q
    ·exact q
    ·rw [Array.getElem?_eq_none q] at hv; cases hv
   rw [hw g hlt]; exact hv
 intro w hw;refine ⟨⟨_,_,key hw hv1⟩,⟨_,_,key hw hv0⟩,?_⟩;have h2:=key hw tab;unfold World.var? at h2;rw [hg] at h2;simp only [Option.bind_some] at h2;split at h2
 ·rename_i cs e fz hc;exact ⟨e,fz,by rw [hc]; cases h2; rfl⟩
 ·cases h2
end Vx
end Go.Proofs.YtonkagjdfpacmaaGreatDoor
namespace Go.Proofs.YtonkagjdfpacmaaGreatDoor
set_option maxHeartbeats 4000000
namespace Vx
open Go.RowKit
def lN:Con:=.fn 15 (Int × Int × Int) (fun a=>[.int .i64 a.1,.int .i64 a.2.1,.int .i64 a.2.2]) (fun _=>True) (fun a=>.bool (decide (a.2.1<=a.1) && decide (a.1<=a.2.2))) (fun _=>[])
theorem rQ:Has Tryz.prog 66 lN:=by
 refine ag mixed ak HasL.nil [0,1,2,6] ((fun a n (_:Nat)=>(fun _=>an) a n)) [] Tryz.func66 (by unfold Tryz.f66; rfl) (fun _=>⟨(),trivial⟩) ?_
 intro a _;obtain ⟨n,lo,hi⟩:=a;simp -implicitDefEqProofs [lN,Con.fn,ae];omega
def iZ:Con:=.fn 15 (Int × Int × Int) (fun a=>[.int .i64 a.1,.int .i64 a.2.1,.int .i64 a.2.2]) (fun _=>True) (fun a=>.bool (decide (a.2.1<=a.1) && decide (a.1<=a.2.2))) (fun _=>[])
theorem kO:Has Tryz.prog 83 iZ:=by
 refine ag mixed ak HasL.nil [0,1,2,6] ((fun a n (_:Nat)=>(fun _=>an) a n)) [] Tryz.func83 (by unfold Tryz.f83; rfl) (fun _=>⟨(),trivial⟩) ?_
 intro a _;obtain ⟨n,lo,hi⟩:=a;simp -implicitDefEqProofs [iZ,Con.fn,ae];omega
def ke (n:Int):Bool:=(decide (97<=n) && decide (n<=122)) || (decide (48<=n) && decide (n<=57))
def u7:Con:=.fn 17 Int (fun a=>[.int .u8 a]) (fun _=>True) (fun a=>.bool (ke a)) (fun _=>[])
theorem R5:Has Tryz.prog 117 u7:=by
 refine ag mixed ak HasL.nil [0,2] ((fun a n (_:Nat)=>(fun _=>an) a n)) [] Tryz.func117 (by unfold Tryz.f117; rfl) (fun _=>⟨(),trivial⟩) ?_
 intro a _;simp -implicitDefEqProofs [u7,Con.fn,ae,ke]
 repeat' (first | intro _ | apply And.intro)
 all_goals first | omega | grind
def bc (s:Str):Bool:=decide (1<=s.length) && decide (s.length<=6) && s.all fun b=>ke b.toNat
def jG:Con:=.fn 19 Str (fun s=>[.str s]) (fun _=>True) (fun s=>.bool (bc s)) (fun _=>[])
theorem mB:Has Tryz.prog 64 jG:=by
 refine ag mixed ak (HasL.cons rQ (HasL.cons R5 HasL.nil)) [0,2,3] ((fun a n (_:Nat)=>(fun s _=>⟨Nat,fun i=>⟨[(0,true,.str s),(2,true,.bool false),(3,true,.int .i64 i)],[]⟩,fun i=>i<=s.length/\1<=s.length/\s.length<=6/\(s.take i).all (fun b=>ke b.toNat)=true,fun i=>s.length - i⟩) a n)) [] Tryz.func64 (by unfold Tryz.f64; rfl) (fun _=>⟨(),trivial⟩) ?_
 intro (s:Str) _;simp -implicitDefEqProofs [jG,Con.fn,ae,lN,u7]
 try dsimp only
 try simp +contextual [al,am,aV,aL,aW,List.getElem?_eq_getElem,ba,aN,aT,aY,<- aP,<- aU,aO,aR,aZ,aX,aQ,aS,and_assoc]
 repeat' (first | intro _ | apply And.intro)
 all_goals first | omega | grind [bl,bc,List.take_succ_eq_append_getElem]
def jF:Con:=.fn 35 Str (fun s=>[.str s]) (fun _=>True) (fun s=>.bool (bc s)) (fun _=>[])
theorem mq:Has Tryz.prog 79 jF:=by
 refine ag mixed ak (HasL.cons kO HasL.nil) [0,2,3] ((fun a n (_:Nat)=>(fun s _=>⟨Nat,fun i=>⟨[(0,true,.str s),(2,true,.bool false),(3,true,.int .i64 i)],[]⟩,fun i=>i<=s.length/\(s.take i).all (fun b=>ke b.toNat)=true,fun i=>s.length - i⟩) a n)) [] Tryz.func79 (by unfold Tryz.f79; rfl) (fun _=>⟨(),trivial⟩) ?_
 intro (s:Str) _;simp -implicitDefEqProofs [jF,Con.fn,ae,iZ]
 try dsimp only
 try simp +contextual [al,am,aV,aL,aW,List.getElem?_eq_getElem,ba,aN,aT,aY,<- aP,<- aU,aO,aR,aZ,aX,aQ,aS,and_assoc]
 repeat' (first | intro _ | apply And.intro)
 all_goals first | omega | grind [bl,bc,ke,List.take_succ_eq_append_getElem]
def gq (s:Str):Bool:=decide (s.length<=12) && s.all fun b=>decide (32<=b.toNat) && decide (b.toNat<=126)
def ub:Con:=.fn 23 Str (fun s=>[.str s]) (fun _=>True) (fun s=>.bool (gq s)) (fun _=>[])
theorem LM:Has Tryz.prog 152 ub:=by
 refine ag mixed ak HasL.nil [0,2,3] ((fun a n (_:Nat)=>(fun s _=>⟨Nat,fun i=>⟨[(0,true,.str s),(2,true,.bool false),(3,true,.int .i64 i)],[]⟩,fun i=>i<=s.length/\s.length<=12/\(s.take i).all (fun b=>decide (32<=b.toNat) && decide (b.toNat<=126))=true,fun i=>s.length - i⟩) a n)) [] Tryz.func152 (by unfold Tryz.f152; rfl) (fun _=>⟨(),trivial⟩) ?_
 intro (s:Str) _;simp -implicitDefEqProofs [ub,Con.fn,ae]
 try dsimp only
 try simp +contextual [al,am,aV,aL,aW,List.getElem?_eq_getElem,ba,aN,aT,aY,<- aP,<- aU,aO,aR,aZ,aX,aQ,aS,and_assoc]
 repeat' (first | intro _ | apply And.intro)
 all_goals first | omega | grind [bl,gq,List.take_succ_eq_append_getElem]
def tH:Con:=.fn 23 Str (fun s=>[.str s]) (fun _=>True) (fun s=>.bool (gq s)) (fun _=>[])
theorem KQ:Has Tryz.prog 173 tH:=by
 refine ag mixed ak HasL.nil [0,2,3] ((fun a n (_:Nat)=>(fun s _=>⟨Nat,fun i=>⟨[(0,true,.str s),(2,true,.bool false),(3,true,.int .i64 i)],[]⟩,fun i=>i<=s.length/\(s.take i).all (fun b=>decide (32<=b.toNat) && decide (b.toNat<=126))=true,fun i=>s.length - i⟩) a n)) [] Tryz.func173 (by unfold Tryz.f173; rfl) (fun _=>⟨(),trivial⟩) ?_
 intro (s:Str) _;simp -implicitDefEqProofs [tH,Con.fn,ae]
 try dsimp only
 try simp +contextual [al,am,aV,aL,aW,List.getElem?_eq_getElem,ba,aN,aT,aY,<- aP,<- aU,aO,aR,aZ,aX,aQ,aS,and_assoc]
 repeat' (first | intro _ | apply And.intro)
 all_goals first | omega | grind [bl,gq,List.take_succ_eq_append_getElem]
def bD (t:List Str):Bool:=decide (t.length<=10) && t.all gq
def lM:Con:=.fn 18 (List Str) (fun t=>[.sl true 1 (aa t)]) (fun _=>True) (fun t=>.bool (bD t)) (fun _=>[])
theorem rL:Has Tryz.prog 101 lM:=by
 refine ag mixed ak (HasL.cons LM HasL.nil) [0,2,4,8,9,10] ((fun a n (_:Nat)=>(fun t _=>⟨Nat,fun i=>⟨[(2,true,.bool false),(8,true,.sl true 1 (aa t)),(9,true,.int .i64 t.length),(10,true,.int .i64 i)],[]⟩,fun i=>i<=t.length/\t.length<=10/\(t.take i).all gq=true,fun i=>t.length - i⟩) a n)) [] Tryz.func101 (by unfold Tryz.f101; rfl) (fun _=>⟨(),trivial⟩) ?_
 intro (t:List Str) _;simp -implicitDefEqProofs [lM,Con.fn,ae,ub]
 try dsimp only
 try simp +contextual [al,am,aV,aL,aW,List.getElem?_eq_getElem,ba,aN,aT,aY,<- aP,<- aU,aO,aR,aZ,aX,aQ,aS,and_assoc]
 repeat' (first | intro _ | apply And.intro)
 all_goals first | omega | grind [bl,bD,List.take_succ_eq_append_getElem]
def nq:Con:=.fn 19 (List Str) (fun t=>[.sl true 1 (aa t)]) (fun _=>True) (fun t=>.bool (bD t)) (fun _=>[])
theorem wF:Has Tryz.prog 136 nq:=by
 refine ag mixed ak (HasL.cons KQ HasL.nil) [0,2,3] ((fun a n (_:Nat)=>(fun t _=>⟨Nat,fun i=>⟨[(0,true,.sl true 1 (aa t)),(2,true,.bool false),(3,true,.int .i64 i)],[]⟩,fun i=>i<=t.length/\(t.take i).all gq=true,fun i=>t.length - i⟩) a n)) [] Tryz.func136 (by unfold Tryz.f136; rfl) (fun _=>⟨(),trivial⟩) ?_
 intro (t:List Str) _;simp -implicitDefEqProofs [nq,Con.fn,ae,tH]
 try dsimp only
 try simp +contextual [al,am,aV,aL,aW,List.getElem?_eq_getElem,ba,aN,aT,aY,<- aP,<- aU,aO,aR,aZ,aX,aQ,aS,and_assoc]
 repeat' (first | intro _ | apply And.intro)
 all_goals first | omega | grind [bl,bD,List.take_succ_eq_append_getElem]
def pr:Con:=.fn 26 (List Str × List Str) (fun a=>[.sl true 1 (aa a.1),.sl true 1 (aa a.2)]) (fun _=>True) (fun a=>.bool (decide (a.1=a.2))) (fun _=>[])
theorem Ad:Has Tryz.prog 52 pr:=by
 refine ag mixed ak HasL.nil [0,1,2,3,4,5] ((fun a n (_:Nat)=>(fun a _=>⟨Nat,fun i=>⟨[(0,true,.sl true 1 (aa a.1)),(1,true,.sl true 1 (aa a.2)),(4,true,.bool false),(5,true,.int .i64 i)],[]⟩,fun i=>i<=a.1.length/\a.1.length=a.2.length/\a.1.take i=a.2.take i,fun i=>a.1.length - i⟩) a n)) [] Tryz.func52 (by unfold Tryz.f52; rfl) (fun _=>⟨(),trivial⟩) ?_
 intro a _;obtain ⟨l,r⟩:=a;simp -implicitDefEqProofs [pr,Con.fn,ae]
 try dsimp only
 try simp +contextual [al,am,aV,aL,aW,List.getElem?_eq_getElem,ba,aN,aT,aY,<- aP,<- aU,aO,aR,aZ,aX,aQ,aS,and_assoc]
 repeat' (first | intro _ | apply And.intro)
 all_goals first | omega | grind [bl,iB,gR]
def szL:List Str->Int->Int
 | [],l=>l
 | s :: r,l=>if l - s.length < 0 then -1 else szL r (l - s.length)
def li (a:List Str) (l:Int):Int:=if l - a.length < 0 then -1 else szL a (l - a.length)
def uP:Con:=.fn 28 (List Str × Int) (fun a=>[.sl true 1 (aa a.1),.int .i64 a.2]) (fun a=>0<=a.2/\a.2<=1048576) (fun a=>.int .i64 (li a.1 a.2)) (fun _=>[])
theorem QF {a:List Str} {i:Nat} {l:Int} (h:i < a.length):szL (a.drop i) l=if l - a[i].length < 0 then -1 else szL (a.drop (i+1)) (l - a[i].length):=by rw [List.drop_eq_getElem_cons h]; rfl
theorem QC {a:List Str} {i:Nat} {l:Int} (h:a.length<=i):szL (a.drop i) l=l:=by rw [List.drop_eq_nil_of_le h]; rfl
theorem QG:Has Tryz.prog 44 uP:=by
 refine ag mixed ak HasL.nil [0,1,4,5] ((fun a n (_:Nat)=>(fun a _=>⟨Nat × Int,fun t=>⟨[(0,true,.sl true 1 (aa a.1)),(1,true,.int .i64 t.2),(4,true,.int .i64 0),(5,true,.int .i64 t.1)],[]⟩,fun t=>t.1<=a.1.length/\0<=t.2/\t.2<=1048576/\szL (a.1.drop t.1) t.2=li a.1 a.2,fun t=>a.1.length - t.1⟩) a n)) [] Tryz.func44 (by unfold Tryz.f44; rfl) (fun _=>⟨(),trivial⟩) ?_
 intro a ha;obtain ⟨l,n⟩:=a;obtain ⟨h1,h2⟩:0<=n/\n<=1048576:=ha;simp -implicitDefEqProofs [uP,Con.fn,ae]
 try dsimp only
 try simp +contextual [al,am,aV,aL,aW,List.getElem?_eq_getElem,ba,aN,aT,aY,<- aP,<- aU,aO,aR,aZ,aX,aQ,aS,and_assoc]
 repeat' (first | intro _ | apply And.intro)
 all_goals first | omega | grind [bl,li,QF,QC]
abbrev dk (h:Nat) (a:List Str):List (Nat × Blk):=[(h,.own 9 1 true (aa a))]
abbrev fF (h:Nat) (a:List FileD):List (Nat × Blk):=[(h,.own 99 2 true (ac a))]
def uR:Con:=.fn 22 (List Str) (fun a=>[.sl true 1 (aa a)]) (fun a=>a.length<=1048576) (fun a=>.own 8 1 (aa a)) (fun a=>dk 8 a)
theorem QS:Has Tryz.prog 48 uR:=by
 refine ag mixed ak HasL.nil [0,2,3,4] ((fun a n (_:Nat)=>(fun a _=>⟨Nat × List Str,fun t=>⟨[(0,true,.sl true 1 (aa a)),(2,true,.nil),(3,true,.own 9 1 (aa t.2)),(4,true,.int .i64 t.1)],dk 9 t.2⟩,fun t=>t.1<=a.length/\t.2.length=a.length/\t.2.take t.1=a.take t.1,fun t=>a.length - t.1⟩) a n)) [] Tryz.func48 (by unfold Tryz.f48; rfl) (fun _=>⟨(),trivial⟩) ?_
 intro (a:List Str) ha;replace ha:a.length<=1048576:=ha;simp -implicitDefEqProofs [uR,Con.fn,ae]
 try dsimp only
 try simp +contextual [al,am,aV,aL,aW,List.getElem?_eq_getElem,ba,aN,aT,aY,<- aP,<- aU,aO,aR,aZ,aX,aQ,aS,and_assoc]
 repeat' (first | intro _ | apply And.intro)
 all_goals first | omega | grind [bl,PM,gR]

theorem QD:∀ {a:List Str} {l:Int},0<=l->szL a l<=l:=by
 intro a
 induction a with
 | nil=>intro l _; exact Int.le_refl l
 | cons s r ih =>
  intro l h;simp only [szL];split
  ·omega
  ·have:=ih (l:=l - s.length) (by omega); omega
def sQ:Con:=.fn 16 (FileD × FileD) (fun a=>[.agg [.str a.1.path,.sl true 1 (aa a.1.text)],.agg [.str a.2.path,.sl true 1 (aa a.2.text)]]) (fun _=>True) (fun a=>.bool (decide (a.1=a.2))) (fun _=>[])
theorem Hx:Has Tryz.prog 180 sQ:=by
 refine ag mixed ak (HasL.cons Ad HasL.nil) [0,1,2,3,4] ((fun a n (_:Nat)=>(fun _=>an) a n)) [] Tryz.func180 (by unfold Tryz.f180; rfl) (fun _=>⟨(),trivial⟩) ?_
 intro a _;obtain ⟨⟨p,x⟩,⟨q,y⟩⟩:=a;simp -implicitDefEqProofs [sQ,Con.fn,ae,pr]
 try dsimp only
 try simp +contextual [al,am,aV,aL,aW,List.getElem?_eq_getElem,ba,aN,aT,aY,<- aP,<- aU,aO,aR,aZ,aX,aQ,aS,and_assoc]
 repeat' (first | intro _ | apply And.intro)
 all_goals first | omega | grind [bl]
def sR:Con:=.fn 27 (List FileD × List FileD) (fun a=>[.sl true 2 (ac a.1),.sl true 2 (ac a.2)]) (fun _=>True) (fun a=>.bool (decide (a.1=a.2))) (fun _=>[])
theorem Hw:Has Tryz.prog 150 sR:=by
 refine ag mixed ak (HasL.cons Hx HasL.nil) [0,1,2,3,4,5] ((fun a n (_:Nat)=>(fun a _=>⟨Nat,fun i=>⟨[(0,true,.sl true 2 (ac a.1)),(1,true,.sl true 2 (ac a.2)),(4,true,.bool false),(5,true,.int .i64 i)],[]⟩,fun i=>i<=a.1.length/\a.1.length=a.2.length/\a.1.take i=a.2.take i,fun i=>a.1.length - i⟩) a n)) [] Tryz.func150 (by unfold Tryz.f150; rfl) (fun _=>⟨(),trivial⟩) ?_
 intro a _;obtain ⟨l,r⟩:=a;simp -implicitDefEqProofs [sR,Con.fn,ae,sQ]
 try dsimp only
 try simp +contextual [al,am,aV,aL,aW,List.getElem?_eq_getElem,ba,aN,aT,aY,<- aP,<- aU,aO,aR,aZ,aX,aQ,aS,and_assoc,<- FileD.eq_iff]
 repeat' (first | intro _ | apply And.intro)
 all_goals first | omega | grind [bl,iB,gR]
def ij (p s:Str):Bool:=decide (p.length<=s.length) && decide (s.take p.length=p)
def uH:Con:=.fn 18 (Str × Str) (fun a=>[.str a.1,.str a.2]) (fun _=>True) (fun a=>.bool (ij a.2 a.1)) (fun _=>[])
theorem PU:Has Tryz.prog 195 uH:=by
 refine ag mixed ak HasL.nil [0,1,4] ((fun a n (_:Nat)=>(fun _=>an) a n)) [] Tryz.func195 (by unfold Tryz.f195; rfl) (fun _=>⟨(),trivial⟩) ?_
 intro a _;obtain ⟨s,p⟩:=a;simp -implicitDefEqProofs [uH,Con.fn,ae,ij]
 try dsimp only
 try simp +contextual [al,am,aV,aL,aW,List.getElem?_eq_getElem,ba,aN,aT,aY,<- aP,<- aU,aO,aR,aZ,aX,aQ,aS,and_assoc]
 repeat' (first | intro _ | apply And.intro)
 all_goals first | omega | grind [bl]
def pw:Con:=.fn 8 (Str × Str) (fun a=>[.str a.1,.str a.2]) (fun _=>True) (fun a=>.bool (ij a.2 a.1)) (fun _=>[])
theorem Aw:Has Tryz.prog 164 pw:=by
 refine ag mixed ak (HasL.cons PU HasL.nil) [0,1,4] ((fun a n (_:Nat)=>(fun _=>an) a n)) [] Tryz.func164 (by unfold Tryz.f164; rfl) (fun _=>⟨(),trivial⟩) ?_
 intro a _;obtain ⟨s,p⟩:=a;simp -implicitDefEqProofs [pw,Con.fn,ae,uH]
 try dsimp only
 try simp +contextual [al,am,aV,aL,aW,List.getElem?_eq_getElem,ba,aN,aT,aY,<- aP,<- aU,aO,aR,aZ,aX,aQ,aS,and_assoc]
 repeat' (first | intro _ | apply And.intro)
 all_goals first | omega | grind [bl]
def inB (d p:Str):Bool:=decide (d.length < p.length) && decide (p.take d.length=d) && decide (p.getD d.length 0=47)
theorem x8 (a:UInt8):((a.toNat:Int)=47)=(a=47):=by
 apply propext;constructor
 ·intro h;have:a.toNat=47:=by omega
  exact UInt8.toNat_inj.1 (by simpa using this)
 ·rintro rfl; rfl
def nr:Con:=.fn 25 (Str × Str) (fun a=>[.str a.1,.str a.2]) (fun _=>True) (fun a=>.bool (inB a.1 a.2)) (fun _=>[])
theorem wJ:Has Tryz.prog 142 nr:=by
 refine ag mixed ak HasL.nil [0,1,4] ((fun a n (_:Nat)=>(fun _=>an) a n)) [] Tryz.func142 (by unfold Tryz.f142; rfl) (fun _=>⟨(),trivial⟩) ?_
 intro a _;obtain ⟨d,p⟩:=a;simp -implicitDefEqProofs [nr,Con.fn,ae,inB,x8]
 try dsimp only
 try simp +contextual [al,am,aV,aL,aW,List.getElem?_eq_getElem,ba,aN,aT,aY,<- aP,<- aU,aO,aR,aZ,aX,aQ,aS,and_assoc,x8]
 repeat' (first | intro _ | apply And.intro)
 all_goals first | omega | grind [bl,x8]
def aK (b:Int) (most:Nat):Str->Str->Nat->List Str
 | [],c,_=>[c]
 | x :: r,c,n=>if n < most then (if (x.toNat:Int)=b then c :: aK b most r [] (n+1) else aK b most r (c++[x]) n) else [c++x :: r]
theorem qk {b:Int} {most:Nat} {r c:Str} {n:Nat} (h:most<=n):aK b most r c n=[c++r]:=by
 cases r with
 | nil=>simp [aK]
 | cons x r=>simp [aK,Nat.not_lt.2 h]
def dz (s:Str) (fr i:Nat):Str:=(s.drop fr).take (i - fr)
theorem Oe {s:Str} {fr i:Nat} (h:fr<=i):dz s fr i++s.drop i=s.drop fr:=by
 unfold dz;have:s.drop i=(s.drop fr).drop (i - fr):=by rw [List.drop_drop]; congr 1; omega
 rw [this,List.take_append_drop]
theorem Oj {s:Str} {fr i:Nat} (h:s.length<=i) (hf:fr<=i):dz s fr i=s.drop fr:=by
 unfold dz;exact List.take_of_length_le (by rw [List.length_drop]; omega)
theorem Ol {s:Str} {fr:Nat}:dz s fr fr=[]:=by simp [dz]
theorem Ok {s:Str} {fr i:Nat} (h:i < s.length) (hf:fr<=i):dz s fr (i+1)=dz s fr i++[s[i]]:=by
 unfold dz;rw [show i+1 - fr=(i - fr)+1 by omega,List.take_succ_eq_append_getElem (by rw [List.length_drop]; omega)]
 congr 2
 rw [List.getElem_drop]
 congr 1
 omega
theorem G3 {b:Int} {most:Nat} {s:Str} {fr i n:Nat} (h:i < s.length) (hf:fr<=i) (hn:n < most) :
  aK b most (s.drop i) (dz s fr i) n=if (s[i].toNat:Int)=b then dz s fr i :: aK b most (s.drop (i+1)) (dz s (i+1) (i+1)) (n+1) else aK b most (s.drop (i+1)) (dz s fr (i+1)) n:=by
 rw [List.drop_eq_getElem_cons h,Ol,Ok h hf];simp [aK,hn]
theorem GZ {b:Int} {most:Nat} {s:Str} {fr i n:Nat} (h:s.length<=i) (hf:fr<=i):aK b most (s.drop i) (dz s fr i) n=[s.drop fr]:=by rw [List.drop_eq_nil_of_le h,<- Oj h hf]; rfl
theorem G2 {b:Int} {most:Nat} {s:Str} {fr i n:Nat} (h:most<=n) (hf:fr<=i):aK b most (s.drop i) (dz s fr i) n=[s.drop fr]:=by rw [qk h,Oe hf]
def aB (s:Str) (b:Int) (most:Nat):List Str:=aK b most s [] 0
theorem Of (s:Str) (fr i:Nat):(s.drop fr).take (i - fr)=dz s fr i:=rfl
theorem Oi (s:Str) (fr:Nat):dz s fr s.length=s.drop fr:=by
 unfold dz;exact List.take_of_length_le (by rw [List.length_drop]; omega)
def np:Con:=.fn 43 (Str × Int × Nat) (fun a=>[.str a.1,.int .u8 a.2.1,.int .i64 a.2.2]) (fun a=>a.2.2<=1000000) (fun a=>.own 8 1 (aa (aB a.1 a.2.1 a.2.2))) (fun a=>dk 8 (aB a.1 a.2.1 a.2.2))
theorem wE:Has Tryz.prog 59 np:=by
 refine ag mixed ak HasL.nil [0,1,2,6,7,8,9] ((fun a n (_:Nat)=>(fun a _=>⟨List Str × Nat × Nat,fun t=>⟨[(0,true,.str a.1),(1,true,.int .u8 a.2.1),(2,true,.int .i64 a.2.2),(6,true,.nil),(7,true,.own 9 1 (aa t.1)),(8,true,.int .i64 t.2.1),(9,true,.int .i64 t.2.2)],dk 9 t.1⟩,fun t=>t.2.1<=t.2.2/\t.2.2<=a.1.length/\t.1.length<=a.2.2/\t.1++aK a.2.1 a.2.2 (a.1.drop t.2.2) (dz a.1 t.2.1 t.2.2) t.1.length=aB a.1 a.2.1 a.2.2,fun t=>a.1.length - t.2.2⟩) a n)) [] Tryz.func59 (by unfold Tryz.f59; rfl) (fun _=>⟨(),trivial⟩) ?_
 intro a ha;obtain ⟨s,b,most⟩:=a;replace ha:most<=1000000:=ha;have hs:aK b most s (dz s 0 0) 0=aB s b most:=rfl;simp -implicitDefEqProofs [np,Con.fn,ae]
 try dsimp only
 try simp +contextual [al,am,aV,aL,aW,List.getElem?_eq_getElem,ba,aN,aT,aY,<- aP,<- aU,aO,aR,aZ,aX,aQ,aS,and_assoc,Of,Oi]
 repeat' (first | intro _ | apply And.intro)
 all_goals first | omega | grind [bl,G3,GZ,G2]
theorem Gr (a:Nat):((a:Int)=3)=(a=3):=by apply propext; omega
def c6 (s:Str):Bool:=(aB s 47 3).all bc && decide ((aB s 47 3).length<=3)
def ns:Con:=.fn 22 Str (fun s=>[.str s]) (fun _=>True) (fun s=>.bool (c6 s)) (fun _=>[])
theorem wN:Has Tryz.prog 81 ns:=by
 refine ag mixed ak (HasL.cons wE (HasL.cons mq HasL.nil)) [0,2,3,4] ((fun a n (_:Nat)=>(fun s _=>⟨Nat,fun i=>⟨[(2,true,.bool false),(3,true,.own 9 1 (aa (aB s 47 3))),(4,true,.int .i64 i)],dk 9 (aB s 47 3)⟩,fun i=>i<=(aB s 47 3).length/\((aB s 47 3).take i).all bc=true,fun i=>(aB s 47 3).length - i⟩) a n)) [] Tryz.func81 (by unfold Tryz.f81; rfl) (fun _=>⟨(),trivial⟩) ?_
 intro (s:Str) _;simp -implicitDefEqProofs [ns,Con.fn,ae,np,jF]
 try dsimp only
 try simp +contextual [al,am,aV,aL,aW,List.getElem?_eq_getElem,ba,aN,aT,aY,<- aP,<- aU,aO,aR,aZ,aX,aQ,aS,and_assoc,Gr]
 repeat' (first | intro _ | apply And.intro)
 all_goals first | omega | grind [bl,c6,List.take_succ_eq_append_getElem]
def mu (a b:Str):Bool:=Go.Op.bytesLess a b || decide (a=b)
def gy (t:List FileD) (i:Nat):Bool:=c6 (t.getD i default).path && bD (t.getD i default).text && (decide (i=0) || !mu (t.getD i default).path (t.getD (i - 1) default).path)
def gY (t:List FileD) (i:Nat):Bool:=t.all fun g=>!inB (t.getD i default).path g.path
def bi (t:List FileD):Bool:=(List.range t.length).all (fun i=>gy t i && gY t i) && decide (t.length<=8)
def kr:Con:=.fn 65 (List FileD) (fun t=>[.sl true 2 (ac t)]) (fun _=>True) (fun t=>.bool (bi t)) (fun _=>[])
def wM (t:List FileD):Inv:=⟨Nat,fun i=>⟨[(0,true,.sl true 2 (ac t)),(2,true,.bool false),(3,true,.int .i64 i)],[]⟩,fun i=>i<=t.length /\ ∀ j,j < i->gy t j=true/\gY t j=true,fun i=>t.length - i⟩
def wK (t:List FileD) (g:Nat):Inv:=⟨Nat,fun k=>⟨[(0,true,.sl true 2 (ac t)),(2,true,.bool false),(3,true,.int .i64 g),(4,true,.int .i64 k)],[]⟩,fun x=>g < t.length/\x<=t.length/\(∀ j,j < g->gy t j=true/\gY t j=true)/\gy t g=true /\ ∀ k,k < x->inB (t.getD g default).path (t.getD k default).path=false,fun x=>t.length - x⟩
def wL (t:List FileD) (n g:Nat):Inv:=if n=2 then wM t else wK t g
theorem K7 (t:List FileD) (g:Nat):wL t 2 g=wM t:=rfl
theorem K8 (t:List FileD) (g:Nat):wL t 7 g=wK t g:=rfl
set_option maxRecDepth 8000
theorem nW:Has Tryz.prog 137 kr:=by
 refine ag mixed ak (HasL.cons wN (HasL.cons wF (HasL.cons wJ (HasL.cons kO HasL.nil)))) [0,2,3,4] (fun t=>wL t) [] Tryz.func137 (by unfold Tryz.f137; rfl) (fun _=>⟨(),trivial⟩) ?_
 intro (t:List FileD) _;have hs:∀ i,t.length<=i -> ¬ i < t.length:=by omega
 have hE:bi t=true ↔ (∀ i,i < t.length->gy t i=true/\gY t i=true)/\t.length<=8:=by simp [bi]
 have hF:∀ i,i < t.length->(gy t i && gY t i)=false->bi t=false:=by
  intro i hi h;rcases hb:bi t with _ | _
  ·rfl
  ·exact absurd ((hE.1 hb).1 i hi) (by simpa using h)
 have hH:∀ i,i < t.length->gy t i=false->bi t=false:=fun i hi h=>hF i hi (by simp [h])
 have hN:∀ i k,i < t.length->k < t.length->inB (t.getD i default).path (t.getD k default).path=true->bi t=false:=by
  intro i k hi hk h;refine hF i hi ?_;have:gY t i=false:=by
   simp only [gY,List.all_eq_false];exact ⟨t[k],List.getElem_mem hk,by simp [List.getD_eq_getElem?_getD,hk] at h ⊢; simpa [hk] using h⟩
  simp [this]
 have hI:∀ i,(∀ k,k < t.length->inB (t.getD i default).path (t.getD k default).path=false)->gY t i=true:=by
  intro i h;simp only [gY,List.all_eq_true];intro g hg;obtain ⟨k,hk,rfl⟩:=List.getElem_of_mem hg;have:=h k hk
  simpa [List.getD_eq_getElem?_getD,hk] using this
 simp -implicitDefEqProofs [kr,Con.fn,ae,ns,nq,nr,iZ,K7,K8,wM,wK]
 try dsimp only
 intro i hi hj hl;have e1:∀ k (h:k < t.length),Option.map am t[k]? = some (am t[k]):=by
  intro k h;simp [List.getElem?_eq_getElem h]
 have e2:i < t.length->i - 1 < t.length:=by omega
 constructor
 ·intro hlt;have e3:=e1 i hlt;have e4:=e1 (i - 1) (e2 hlt);simp [hlt,e2 hlt,e3,e4,am,al,D.asStr,D.asRows]
  try simp +contextual [al,am,aV,aL,aW,List.getElem?_eq_getElem,ba,aN,aT,aY,<- aP,<- aU,aO,aR,aZ,aX,aQ,aS,and_assoc]
  repeat' (first | intro _ | apply And.intro)
  all_goals first | omega | grind [bl,gy,mu]
 ·have hX:t.length<=i->bi t=decide (t.length<=8):=by
   intro h;have:bi t=true ↔ t.length<=8:=by
    rw [hE];exact ⟨fun h=>h.2,fun h8=>⟨fun j hj'=>hj j (by omega),h8⟩⟩
   cases h':bi t <;> simp_all
  try simp +contextual [al,am,aV,aL,aW,List.getElem?_eq_getElem,ba,aN,aT,aY,<- aP,<- aU,aO,aR,aZ,aX,aQ,aS,and_assoc]
  repeat' (first | intro _ | apply And.intro)
  all_goals first | omega | grind [bl,gy,mu]
def dO (t:List FileD):Nat:=(t.map fun f=>f.text.length).sum
theorem M1 (t:List FileD) (i:Nat) (h:i < t.length):dO (t.take (i+1))=dO (t.take i)+t[i].text.length:=by
 unfold dO;rw [List.take_succ_eq_append_getElem h,List.map_append,List.sum_append];rfl
theorem mX (t:List FileD) (h:bi t=true):t.length<=8 /\ ∀ f ∈ t,f.text.length<=64:=by
 simp only [bi,Bool.and_eq_true,decide_eq_true_eq,List.all_eq_true,List.mem_range,gy] at h;refine ⟨h.2,fun f hf=>?_⟩;obtain ⟨i,hi,rfl⟩:=List.getElem_of_mem hf;have:=(h.1 i hi).1.1.2;simp [List.getD_eq_getElem?_getD,hi,bD] at this;omega
def spl (c:UInt8):Str->Str->List Str
 | [],p=>[p]
 | x :: r,p=>if x=c then p :: spl c r [] else spl c r (p++[x])
theorem wa (s:Str) (c:UInt8):aw s c < s.length:=by
 induction s with
 | nil=>simp [aw]
 | cons b l ih =>
  simp only [aw,List.length_cons];split
  ·omega
  ·split <;> omega
theorem Qf {c:UInt8}:∀ {s p:Str},aw s c < 0->spl c s p=[p++s]/\s.count c=0:=by
 intro s
 induction s with
 | nil=>intro p _; simp [spl]
 | cons b l ih =>
  intro p h;simp only [aw] at h;split at h
  ·omega
  ·rename_i hb;split at h
   ·rename_i hl;have:=ih (p:=p++[b]) hl;simp only [spl,if_neg hb];refine ⟨by rw [this.1]; simp,?_⟩
    rw [List.count_cons,this.2];simp [hb]
   ·omega
theorem DR {c:UInt8}:∀ {s p:Str},0<=aw s c->spl c s p=(p++s.take (aw s c).toNat) :: spl c (s.drop ((aw s c).toNat+1)) []/\s.count c=(s.drop ((aw s c).toNat+1)).count c+1:=by
 intro s
 induction s with
 | nil=>intro p h; simp [aw] at h
 | cons b l ih =>
  intro p h;by_cases hb:b=c
  ·subst hb;simp [aw,spl]
  ·simp only [aw,if_neg hb] at h ⊢;split at h
   ·omega
   ·rename_i hl;rw [if_neg hl];obtain ⟨h1,h2⟩:=ih (p:=p++[b]) (by omega)
    have e:(aw l c+1).toNat=(aw l c).toNat+1:=by omega
    rw [e];simp only [spl,if_neg hb,List.take_succ_cons,List.drop_succ_cons];refine ⟨by rw [h1]; simp,?_⟩
    rw [List.count_cons,h2];simp [hb]
theorem xP (c:UInt8):∀ (s p:Str),(spl c s p).length=s.count c+1:=by
 intro s
 induction s with
 | nil=>intro p; simp [spl]
 | cons b l ih =>
  intro p;simp only [spl];split
  ·rename_i h;subst h;simp [ih]
  ·rename_i h;rw [ih,List.count_cons];simp [h]
theorem PL {α:Type} (d:List α) (k:Nat) (z x:α) (h:0 < k):(d++List.replicate k z).set d.length x=(d++[x])++List.replicate (k - 1) z:=by
 obtain ⟨k,rfl⟩:∃ j,k=j+1:=⟨k - 1,by omega⟩
 rw [List.set_append_right _ _ (Nat.le_refl _)];simp [List.replicate_succ]
def sZ:Con:=.fn 66 (Str × UInt8) (fun a=>[.str a.1,.str [a.2],.int .i64 0,.int .i64 (-1)]) (fun a=>a.1.length<=1073741824) (fun a=>.sl false 1 (aa (spl a.2 a.1 []))) (fun _=>[])
def cF (N:Nat) (d:List Str):List Str:=d++List.replicate (N - d.length) []
theorem vX (N:Nat) (d:List Str) (h:d.length<=N):(cF N d).length=N:=by simp [cF]; omega
theorem me (N:Nat) (d:List Str) (x:Str) (h:d.length < N):(cF N d).set d.length x=cF N (d++[x]):=by
 unfold cF;rw [PL _ _ _ _ (by omega)]
 simp only [List.length_append,List.length_cons,List.length_nil]
 congr 2
theorem nQ (N:Nat):cF N []=List.replicate N []:=by simp [cF]
set_option maxRecDepth 8000
theorem Ik:Has Tryz.prog 160 sZ:=by
 refine ag mixed ak (HasL.cons Qt (HasL.cons xT HasL.nil)) [0,1,2,3,8,9,10,11] ((fun a n (_:Nat)=>(fun a _=>⟨List Str × Str,fun t=>⟨[(0,true,.str t.2),(1,true,.str [a.2]),(2,true,.int .i64 0),(3,true,.int .i64 (a.1.count a.2)),(8,true,.nil),(9,true,.own 9 1 (aa (cF (a.1.count a.2+1) t.1))),(10,true,.int .i64 t.1.length)],dk 9 (cF (a.1.count a.2+1) t.1)⟩,fun t=>t.1.length+t.2.count a.2=a.1.count a.2/\t.2.length<=a.1.length/\t.1++spl a.2 t.2 []=spl a.2 a.1 [],fun t=>a.1.count a.2 - t.1.length⟩) a n)) [] Tryz.func160 (by unfold Tryz.f160; rfl) (fun _=>⟨(),trivial⟩) ?_
 intro a ha;obtain ⟨s,c⟩:=a;replace ha:s.length<=1073741824:=ha;have hc:s.count c<=s.length:=List.count_le_length;simp -implicitDefEqProofs [sZ,zp,pY,Con.fn,ae]
 try dsimp only
 have hif:¬ s.length < s.count c:=by omega
 have hr:(List.replicate ((s.count c:Int)+1).toNat [D.str []])=aa (cF (s.count c+1) []):=by rw [show ((s.count c:Int)+1).toNat=s.count c+1 by omega,nQ,aT]
 have K1:∀ (a:List Str) (b:Str),a.length+b.count c=s.count c->a.length < (cF (s.count c+1) a).length:=fun a b h=>by rw [vX _ _ (by omega)]; omega
 have K2:∀ (a:List Str) (b:Str),a.length+b.count c=s.count c->a++spl c b []=spl c s []->(aw b c < 0 \/ s.count c<=a.length)->spl c s []=((cF (s.count c+1) a).set a.length b).take (a.length+1):=by
  intro a b h1 h2 h3;have h4:aw b c < 0:=by
   rcases h3 with h | h
   ·exact h
   ·refine Classical.byContradiction fun hn=>?_;have:=(DR (p:=[]) (Int.not_lt.1 hn)).2;omega
  have h5:=Qf (p:=[]) h4;rw [<- h2,h5.1,me _ _ _ (by omega)]
  unfold cF;rw [List.take_left' (by simp)]
  rfl
 have K3:∀ (b:Str),aw b c < b.length:=fun b=>wa b c;have K4:∀ (a:List Str) (b:Str),a.length+b.count c=s.count c->b.length<=s.length->a++spl c b []=spl c s []->0<=aw b c ->
   ∃ x,cF (s.count c+1) x=(cF (s.count c+1) a).set a.length (b.take (aw b c).toNat)/\x.length=a.length+1/\(cF (s.count c+1) a).set a.length (b.take (aw b c).toNat)=cF (s.count c+1) x /\
    x.length+((b.drop (aw b c+1).toNat).take (b.length - (aw b c+1).toNat)).count c=s.count c/\b.length<=s.length+(aw b c+1).toNat /\
    x++spl c ((b.drop (aw b c+1).toNat).take (b.length - (aw b c+1).toNat)) []=spl c s []/\s.count c - x.length < s.count c - a.length:=by
  intro a b h1 h2 h3 h4;obtain ⟨h5,h6⟩:=DR (p:=[]) h4;have e1:(aw b c+1).toNat=(aw b c).toNat+1:=by omega
  have e2:(b.drop (aw b c+1).toNat).take (b.length - (aw b c+1).toNat)=b.drop ((aw b c).toNat+1):=by rw [e1]; exact List.take_of_length_le (by simp)
  rw [e2];refine ⟨a++[b.take (aw b c).toNat],(me _ _ _ (by omega)).symm,by simp,me _ _ _ (by omega),by simp; omega,by omega,?_,by simp; omega⟩
  rw [<- h3,h5];simp
 simp +contextual [al,am,aV,aL,aW,List.getElem?_eq_getElem,ba,aN,aT,aY,<- aP,<- aU,aO,aR,aZ,aX,aQ,aS,and_assoc,hif,hr]
 repeat' (first | intro _ | apply And.intro)
 all_goals first | omega | grind [nQ] | exact K4 _ _ (by omega) (by omega) (by assumption) (by omega)
def pX:Con:=.fn 8 (Str × UInt8) (fun a=>[.str a.1,.str [a.2]]) (fun a=>a.1.length<=1073741824) (fun a=>.sl false 1 (aa (spl a.2 a.1 []))) (fun _=>[])
theorem DS:Has Tryz.prog 112 pX:=by
 refine ag mixed ak (HasL.cons Ik HasL.nil) [0,1,4] ((fun a n (_:Nat)=>(fun _=>an) a n)) [] Tryz.func112 (by unfold Tryz.f112; rfl) (fun _=>⟨(),trivial⟩) ?_
 intro a ha;obtain ⟨s,c⟩:=a;replace ha:s.length<=1073741824:=ha;simp -implicitDefEqProofs [pX,Con.fn,ae,sZ]
 try dsimp only
 try simp +contextual [al,am,aV,aL,aW,List.getElem?_eq_getElem,ba,aN,aT,aY,<- aP,<- aU,aO,aR,aZ,aX,aQ,aS,and_assoc]
 repeat' (first | intro _ | apply And.intro)
 all_goals first | omega | grind [bl]
def dP (s:Str):Bool:=decide ((spl 47 s []).length<=3) && (spl 47 s []).all bc
def lK:Con:=.fn 21 Str (fun s=>[.str s]) (fun s=>s.length<=1073741824) (fun s=>.bool (dP s)) (fun _=>[])
theorem rj:Has Tryz.prog 100 lK:=by
 refine ag mixed ak (HasL.cons DS (HasL.cons mB HasL.nil)) [0,2,3,5,11,12,13] ((fun a n (_:Nat)=>(fun s _=>⟨Nat,fun i=>⟨[(2,true,.bool false),(11,true,.sl false 1 (aa (spl 47 s []))),(12,true,.int .i64 (spl 47 s []).length),(13,true,.int .i64 i)],[]⟩,fun i=>i<=(spl 47 s []).length/\(spl 47 s []).length<=3/\((spl 47 s []).take i).all bc=true,fun i=>(spl 47 s []).length - i⟩) a n)) [] Tryz.func100 (by unfold Tryz.f100; rfl) (fun _=>⟨(),trivial⟩) ?_
 intro (s:Str) hs;replace hs:s.length<=1073741824:=hs;simp -implicitDefEqProofs [lK,Con.fn,ae,pX,jG]
 try dsimp only
 try simp +contextual [al,am,aV,aL,aW,List.getElem?_eq_getElem,ba,aN,aT,aY,<- aP,<- aU,aO,aR,aZ,aX,aQ,aS,and_assoc]
 repeat' (first | intro _ | apply And.intro)
 all_goals first | omega | grind [bl,dP,List.take_succ_eq_append_getElem]
set_option maxRecDepth 8000
def jY (d p:Str):Bool:=dP d && dP p && ij (d++[47]) p
def ux:Con:=.fn 17 (Str × Str) (fun a=>[.str a.1,.str a.2]) (fun a=>a.1.length<=536870912/\a.2.length<=536870912) (fun a=>.bool (jY a.1 a.2)) (fun _=>[])
theorem N4:Has Tryz.prog 118 ux:=by
 refine ag mixed ak (HasL.cons rj (HasL.cons Aw HasL.nil)) [0,1,4] ((fun a n (_:Nat)=>(fun _=>an) a n)) [] Tryz.func118 (by unfold Tryz.f118; rfl) (fun _=>⟨(),trivial⟩) ?_
 intro a ha;obtain ⟨d,p⟩:=a;obtain ⟨h1,h2⟩:d.length<=536870912/\p.length<=536870912:=ha;simp -implicitDefEqProofs [ux,Con.fn,ae,lK,pw]
 try dsimp only
 try simp +contextual [al,am,aV,aL,aW,List.getElem?_eq_getElem,ba,aN,aT,aY,<- aP,<- aU,aO,aR,aZ,aX,aQ,aS,and_assoc]
 repeat' (first | intro _ | apply And.intro)
 all_goals first | omega | grind [bl,jY,maxLen]
def dN (t:List FileD) (i:Nat):Bool:=bD (t.getD i default).text && dP (t.getD i default).path && (decide (i=0) || Go.Op.bytesLess (t.getD (i - 1) default).path (t.getD i default).path)
def gZ (t:List FileD) (i:Nat):Bool:=(List.range i).all fun k=>!jY (t.getD k default).path (t.getD i default).path
def aA (t:List FileD):Bool:=decide (t.length<=8) && (List.range t.length).all fun i=>dN t i && gZ t i
def ja:Con:=.fn 57 (List FileD) (fun t=>[.sl true 2 (ac t)]) (fun t=>∀ f ∈ t,f.path.length<=536870912) (fun t=>.bool (aA t)) (fun _=>[])
def tiO (t:List FileD):Inv:=⟨Nat,fun i=>⟨[(0,true,.sl true 2 (ac t)),(2,true,.bool false),(10,true,.sl true 2 (ac t)),(11,true,.int .i64 t.length),(12,true,.int .i64 i)],[]⟩,fun i=>i<=t.length/\t.length<=8 /\ ∀ j,j < i->dN t j=true/\gZ t j=true,fun i=>t.length - i⟩
def tiI (t:List FileD) (g:Nat):Inv:=⟨Nat,fun k=>⟨[(0,true,.sl true 2 (ac t)),(2,true,.bool false),(3,true,.int .i64 g),(4,true,.ptr 10 0),(10,true,.sl true 2 (ac t)),(11,true,.int .i64 t.length),(12,true,.int .i64 g),(44,true,.sl true 2 (ac (t.take g))),(45,true,.int .i64 g),(46,true,.int .i64 k)],
  [(10,.box 99 [.str (t.getD g default).path,.sl true 1 (aa (t.getD g default).text)])]⟩,fun x=>g < t.length/\x<=g/\t.length<=8/\(∀ j,j < g->dN t j=true/\gZ t j=true)/\dN t g=true /\ ∀ k,k < x->jY (t.getD k default).path (t.getD g default).path=false,fun x=>g - x⟩
def xW (t:List FileD) (n g:Nat):Inv:=if n=4 then tiO t else tiI t g
theorem QP (t:List FileD) (g:Nat):xW t 4 g=tiO t:=rfl
theorem QQ (t:List FileD) (g:Nat):xW t 9 g=tiI t g:=rfl
theorem lk:Has Tryz.prog 65 ja:=by
 refine ag mixed ak (HasL.cons rL (HasL.cons rj (HasL.cons N4 HasL.nil))) [0,2,3,4,6,10,11,12,44,45,46] (fun t=>xW t) [] Tryz.func65 (by unfold Tryz.f65; rfl) (fun _=>⟨(),trivial⟩) ?_
 intro (t:List FileD) ht;replace ht:∀ f ∈ t,f.path.length<=536870912:=ht;have hp:∀ i (h:i < t.length),(t[i]).path.length<=536870912:=fun i h=>ht _ (List.getElem_mem h);simp -implicitDefEqProofs [ja,Con.fn,ae,lM,lK,ux,QP,QQ,tiO,tiI]
 try dsimp only
 have hE:aA t=true ↔ t.length<=8 /\ ∀ i,i < t.length->dN t i=true/\gZ t i=true:=by simp [aA]
 have hF:∀ i,i < t.length->(dN t i && gZ t i)=false->aA t=false:=by
  intro i hi h;rcases hb:aA t with _ | _
  ·rfl
  ·exact absurd ((hE.1 hb).2 i hi) (by simpa using h)
 have hH:∀ i,i < t.length->dN t i=false->aA t=false:=fun i hi h=>hF i hi (by simp [h])
 have hN:∀ i k,i < t.length->k < i->jY (t.getD k default).path (t.getD i default).path=true->aA t=false:=by
  intro i k hi hk h;refine hF i hi ?_;have:gZ t i=false:=by
   simp only [gZ,List.all_eq_false];exact ⟨k,List.mem_range.2 hk,by simpa using h⟩
  simp [this]
 have hI:∀ i,(∀ k,k < i->jY (t.getD k default).path (t.getD i default).path=false)->gZ t i=true:=by
  intro i h;simp only [gZ,List.all_eq_true,List.mem_range];intro k hk;simp only [h k hk,Bool.not_false]
 have hB:8 < t.length->aA t=false:=by
  intro h;rcases hb:aA t with _ | _
  ·rfl
  ·exact absurd (hE.1 hb).1 (by omega)
 have e1:∀ k (h:k < t.length),Option.map am t[k]? = some (am t[k]):=fun k h=>by simp [List.getElem?_eq_getElem h]
 have e2:∀ i,i < t.length->i - 1 < t.length:=fun i h=>by omega
 have e4:∀ i k (h:k < i) (h2:i < t.length),Option.map am (List.take i t)[k]? = some (am t[k]):=fun i k h h2=>by rw [List.getElem?_take,if_pos h]; exact e1 k (by omega)
 have hg:∀ i (h:i < t.length),t.getD i default=t[i]:=fun i h=>by simp [List.getD_eq_getElem?_getD,h]
 intro _;refine ⟨fun h=>hB (by omega),fun h8 _=>⟨by omega,fun i hi h8' hprev=>⟨fun hlt=>?_,fun hge=>?_⟩⟩⟩
 ·have e3:=e1 i hlt;have e3':=e1 (i - 1) (e2 i hlt);have hpi:=hp i hlt;have hgi:=hg i hlt;have hgi':=hg (i - 1) (e2 i hlt);have hh:dN t i=(bD t[i].text && dP t[i].path && (decide (i=0) || Go.Op.bytesLess t[i - 1].path t[i].path)):=by simp only [dN,hgi,hgi']
  have hm:min i t.length=i:=by omega
  have hgg:t[i]?.getD default=t[i]:=by simpa [List.getD_eq_getElem?_getD] using hgi
  simp [hlt,e2 i hlt,e3,e3',am,al,D.asStr,D.asRows,hm,aL,and_assoc,hgg]
  try simp +contextual [al,am,aV,aL,aW,List.getElem?_eq_getElem,ba,aN,aT,aY,<- aP,<- aU,aO,aR,aZ,aX,aQ,aS,and_assoc,e4,hgg,hm,hlt,D.asStr,D.asRows,Gq]
  repeat' (first | intro _ | apply And.intro)
  all_goals first | omega | grind
 ·have hT:aA t=true:=hE.2 ⟨h8',fun j hj=>hprev j (by omega)⟩
  simp [hT]
  repeat' (first | intro _ | apply And.intro)
  all_goals first | omega | grind
theorem rN (t:List FileD) (h:aA t=true):t.length<=8 /\ ∀ f ∈ t,f.text.length<=64:=by
 simp only [aA,Bool.and_eq_true,decide_eq_true_eq,List.all_eq_true,List.mem_range,dN] at h;refine ⟨h.1,fun f hf=>?_⟩;obtain ⟨i,hi,rfl⟩:=List.getElem_of_mem hf;have:=(h.2 i hi).1.1.1;simp [List.getD_eq_getElem?_getD,hi,bD] at this;omega
theorem kF (n:Nat):(cj n).length<=2:=by unfold cj; split <;> simp
theorem fk:∀ (x y:Str),Go.Op.bytesLess x y=decide (x < y)
 | [],[]=>by simp [Go.Op.bytesLess]
 | _ :: _,[]=>by simp [Go.Op.bytesLess]
 | [],_ :: _=>by simp [Go.Op.bytesLess]
 | a :: x,b :: y=>by
  rw [Go.Op.bytesLess,fk x y];simp only [List.cons_lt_cons_iff];by_cases h1:a < b <;> by_cases h2:a=b <;> by_cases h3:x < y <;> simp [h1,h2,h3]
theorem jx (a:Str):¬ a < a:=List.lt_irrefl a
theorem lh {a b c:Str} (h:a < b) (h':b < c):a < c:=List.lt_trans h h'
theorem mU (a b:Str) (h:¬ a < b) (hne:a ≠ b):b < a:=by
 have h1:b<=a:=List.not_lt.1 h;exact Classical.byContradiction fun h2=>hne (List.le_antisymm (List.not_lt.1 h2) h1)
theorem lg {a b:Str} (h:a < b):¬ b < a:=fun h'=>jx a (lh h h')
theorem BO (a b:Str):mu a b = !decide (b < a):=by
 unfold mu;rw [fk];by_cases h:a < b
 ·simp [h,lg h]
 ·by_cases e:a=b
  ·subst e; simp [jx]
  ·simp [h,e,mU a b h e]
theorem zS {b:UInt8} {most:Nat}:∀ {r c:Str} {n:Nat},n+r.count b<=most->aK (b.toNat:Int) most r c n=spl b r c:=by
 intro r
 induction r with
 | nil=>intro c n _; rfl
 | cons x r ih =>
  intro c n h;have hx:((x.toNat:Int)=(b.toNat:Int))=(x=b):=by
   apply propext;constructor
   ·intro h; exact UInt8.toNat_inj.1 (by omega)
   ·rintro rfl; rfl
  by_cases hb:x=b
  ·subst hb;rw [List.count_cons_self] at h;simp only [aK,spl,if_true,show n < most by omega]
   rw [ih (by omega)]
  ·rw [List.count_cons_of_ne hb] at h;simp only [aK,spl,hx,hb,if_false];split
   ·exact ih h
   ·have h0:r.count b=0:=by omega
    have:∀ (q p:Str),q.count b=0->spl b q p=[p++q]:=by
     intro q
     induction q with
     | nil=>intro p _; simp [spl]
     | cons y q ih2 =>
      intro p hq;have hy:y ≠ b:=by rintro rfl; simp at hq
      rw [List.count_cons_of_ne hy] at hq;simp only [spl,hy,if_false];rw [ih2 _ hq]; simp
    rw [this r _ h0]; simp
theorem G1 {b:UInt8} {most:Nat}:∀ {r c:Str} {n:Nat},n<=most->most < n+r.count b->(aK (b.toNat:Int) most r c n).length=most - n+1:=by
 intro r
 induction r with
 | nil=>intro c n h1 h2; simp at h2; omega
 | cons x r ih =>
  intro c n h1 h2;have hx:((x.toNat:Int)=(b.toNat:Int))=(x=b):=by
   apply propext;constructor
   ·intro h; exact UInt8.toNat_inj.1 (by omega)
   ·rintro rfl; rfl
  simp only [aK,hx];split
  ·split
   ·rename_i hb;subst hb;rw [List.count_cons_self] at h2;rw [List.length_cons,ih (by omega) (by omega)]
    omega
   ·rename_i hb;rw [List.count_cons_of_ne hb] at h2;rw [ih h1 h2]
  ·simp; omega
theorem gD (s:Str):dP s=c6 s:=by
 unfold dP c6;by_cases h:s.count 47<=3
 ·have:aB s 47 3=spl 47 s []:=zS (b:=47) (most:=3) (by omega)
  rw [this,Bool.and_comm]
 ·have h1:(aB s 47 3).length=4:=G1 (b:=47) (most:=3) (r:=s) (c:=[]) (n:=0) (by omega) (by omega)
  have h2:=xP 47 s [];simp [h1,h2,h];omega
theorem wb (d p:Str):inB d p=ij (d++[47]) p:=by
 unfold inB ij;by_cases h:d.length < p.length
 ·have e:p.take (d.length+1)=p.take d.length++[p[d.length]]:=List.take_succ_eq_append_getElem h;simp only [List.length_append,List.length_cons,List.length_nil,Nat.zero_add,e,h,show d.length+1<=p.length by omega,decide_true,Bool.true_and]
  have hg:p.getD d.length 0=p[d.length]:=getD_nat _ _ h;rw [hg,Bool.eq_iff_iff];simp only [Bool.and_eq_true,decide_eq_true_eq];constructor
  ·rintro ⟨h1,h2⟩; rw [h1,h2]
  ·intro h1;have:=List.append_inj h1 (by simp; omega)
   exact ⟨this.1,by simpa using this.2⟩
 ·simp [h];omega
theorem Ou {d p:Str} (h:ij (d++[47]) p=true):d < p:=by
 unfold ij at h;simp only [Bool.and_eq_true,decide_eq_true_eq,List.length_append,List.length_cons,List.length_nil,Nat.zero_add] at h;have e:p=d++(47 :: p.drop (d.length+1)):=by
  have:=List.take_append_drop (d.length+1) p;rw [h.2] at this
  simpa using this.symm
 rw [e];generalize p.drop (d.length+1)=q;clear h e
 induction d with
 | nil=>exact List.nil_lt_cons _ _
 | cons x d ih=>exact List.cons_lt_cons_iff.2 (.inr ⟨rfl,ih⟩)
theorem eE (t:List FileD):aA t=bi t:=by
 have hasc:(∀ i,i < t.length->dN t i=true) -> ∀ i k,i < k->k < t.length->(t.getD i default).path < (t.getD k default).path:=by
  intro h i k hik hk
  induction k with
  | zero=>omega
  | succ k ih =>
   have h1:=h (k+1) hk;simp only [dN,Bool.and_eq_true,Bool.or_eq_true,decide_eq_true_eq,fk,Nat.add_sub_cancel] at h1;have h2:(t.getD k default).path < (t.getD (k+1) default).path:=by
    rcases h1.2 with h2 | h2
    ·omega
    ·exact h2
   rcases Nat.lt_or_ge i k with h3 | h3
   ·exact lh (ih h3 (by omega)) h2
   ·have:i=k:=by omega
    subst this; exact h2
 have hhead:∀ i,gy t i=dN t i:=by
  intro i;simp only [gy,dN,gD,BO,fk,Bool.not_not];rw [Bool.and_comm (c6 _)]
 rw [Bool.eq_iff_iff];simp only [aA,bi,Bool.and_eq_true,decide_eq_true_eq,List.all_eq_true,List.mem_range,hhead];constructor
 ·rintro ⟨h8,h⟩;refine ⟨fun i hi=>⟨(h i hi).1,?_⟩,h8⟩;simp only [gY,List.all_eq_true,Bool.not_eq_true'];intro g hg;obtain ⟨k,hk,rfl⟩:=List.getElem_of_mem hg;rw [show t[k]=t.getD k default by simp [List.getD_eq_getElem?_getD,hk],wb]
  cases hp:ij ((t.getD i default).path++[47]) (t.getD k default).path with
  | false=>rfl
  | true =>
   exfalso;have hlt:=Ou hp;have hik:i < k:=by
    rcases Nat.lt_trichotomy i k with h1 | h1 | h1
    ·exact h1
    ·subst h1; exact absurd hlt (jx _)
    ·exact absurd hlt (lg (hasc (fun i hi=>(h i hi).1) k i h1 hi))
   have h2:=(h k hk).2;simp only [gZ,List.all_eq_true,List.mem_range,Bool.not_eq_true'] at h2;have h3:=h2 i hik;have p1:=(h i hi).1;have p2:=(h k hk).1;simp only [dN,Bool.and_eq_true] at p1 p2;simp only [jY,p1.1.2,p2.1.2,hp,Bool.and_self,reduceCtorEq] at h3
 ·rintro ⟨h,h8⟩;refine ⟨h8,fun i hi=>⟨(h i hi).1,?_⟩⟩;simp only [gZ,List.all_eq_true,List.mem_range,Bool.not_eq_true'];intro k hk;have h2:=(h k (by omega)).2
  simp only [gY,List.all_eq_true,Bool.not_eq_true'] at h2;have h3:=h2 _ (List.getElem_mem hi);rw [show t[i]=t.getD i default by simp [List.getD_eq_getElem?_getD,hi],wb] at h3
  simp only [jY,h3,Bool.and_false]
theorem P9 {c:UInt8}:∀ {l r p:Str},c ∉ l->spl c (l++r) p=spl c r (p++l):=by
 intro l
 induction l with
 | nil=>intro r p _; simp
 | cons x l ih =>
  intro r p h;have hx:¬ x=c:=fun e=>h (by simp [e])
  simp only [List.cons_append,spl,hx,if_false];rw [ih (fun hm=>h (by simp [hm]))]
  simp
theorem Qg {c:UInt8}:∀ {s p:Str},((spl c s p).map fun q=>q.length+1).sum=p.length+s.length+1:=by
 intro s
 induction s with
 | nil=>intro p; simp [spl]
 | cons x s ih =>
  intro p;simp only [spl];split
  ·simp [ih]; omega
  ·rw [ih]; simp; omega
def C9 (t:List FileD):Prop:=∀ f ∈ t,(∀ b ∈ f.path,32 < b.toNat)/\f.text.length < 100 /\ ∀ l ∈ f.text,(10:UInt8) ∉ l
def ic:Str->Nat->Int->Int
 | [],_,n=>n
 | x :: r,i,n=>if x.toNat < 48 \/ 57 < x.toNat \/ 6<=i then -1 else ic r (i+1) (n * 10+((x.toNat:Int) - 48))
def iM (s:Str):Int:=if ic s 0 0 = -1 then -1 else if s.length=0 \/ (1 < s.length/\s.getD 0 0=48) then -1 else ic s 0 0
theorem CA {n:Nat} (h:n < 100):iM (cj n)=n:=by
 revert h;revert n
 decide
structure OkT (ok:List FileD->Bool):Prop where
 n:∀ {t},ok t=true->t.length<=8
 plain:∀ {t},ok t=true->C9 t
 ten:∀ {t},ok t=true -> ∀ f ∈ t,f.text.length<=10
theorem Qe {c:UInt8}:∀ {s p:Str},∀ b ∈ s,b=c \/ ∃ q ∈ spl c s p,b ∈ q:=by
 intro s
 induction s with
 | nil=>intro p b hb; cases hb
 | cons x s ih =>
  intro p b hb;have keep:∀ (s p:Str),∀ y ∈ p,∃ q ∈ spl c s p,y ∈ q:=by
   intro s
   induction s with
   | nil=>intro p y hy; exact ⟨p,by simp [spl],hy⟩
   | cons z s ih2 =>
    intro p y hy;simp only [spl];split
    ·exact ⟨p,by simp,hy⟩
    ·exact ih2 (p++[z]) y (by simp [hy])
  simp only [spl];split
  ·rename_i hx;rcases List.mem_cons.1 hb with rfl | hb
   ·exact .inl hx
   ·rcases ih (p:=[]) b hb with h | ⟨q,h1,h2⟩
    ·exact .inl h
    ·exact .inr ⟨q,by simp [h1],h2⟩
  ·rcases List.mem_cons.1 hb with rfl | hb
   ·exact .inr (keep s (p++[b]) b (by simp))
   ·exact ih b hb
theorem kV {s:Str} (h:dP s=true):(∀ b ∈ s,32 < b.toNat)/\s.length<=20:=by
 simp only [dP,Bool.and_eq_true,decide_eq_true_eq,List.all_eq_true] at h;obtain ⟨h1,h2⟩:=h;constructor
 ·intro b hb;rcases Qe (c:=47) (p:=[]) b hb with rfl | ⟨q,hq,hbq⟩
  ·decide
  ·have h3:=h2 q hq;simp only [bc,Bool.and_eq_true,List.all_eq_true] at h3;have h4:=h3.2 b hbq;simp only [ke,Bool.or_eq_true,Bool.and_eq_true,decide_eq_true_eq] at h4;omega
 ·have h3:=Qg (c:=47) (s:=s) (p:=[]);have h4:∀ (l:List Str),(∀ q ∈ l,bc q=true)->((l.map fun q=>q.length+1).sum)<=7 * l.length:=by
   intro l
   induction l with
   | nil=>intro _; simp
   | cons q l ih =>
    intro h;have a:=ih fun x hx=>h x (by simp [hx])
    have b:=h q (by simp)
    simp only [bc,Bool.and_eq_true,decide_eq_true_eq] at b;simp only [List.map_cons,List.sum_cons,List.length_cons];omega
  have h5:=h4 _ h2;rw [h3] at h5;simp at h5;omega
theorem mW {t:List FileD} (h:aA t=true):∀ f ∈ t,((∀ b ∈ f.path,32 < b.toNat)/\f.path.length<=20)/\f.text.length<=10 /\ ∀ l ∈ f.text,(10:UInt8) ∉ l:=by
 intro f hf;simp only [aA,Bool.and_eq_true,decide_eq_true_eq,List.all_eq_true,List.mem_range,dN] at h;obtain ⟨i,hi,rfl⟩:=List.getElem_of_mem hf;have h1:=(h.2 i hi).1.1;have hg:t.getD i default=t[i]:=by simp [List.getD_eq_getElem?_getD,hi]
 rw [hg] at h1;refine ⟨kV h1.2,?_⟩;have h2:=h1.1;simp only [bD,Bool.and_eq_true,decide_eq_true_eq,List.all_eq_true] at h2;refine ⟨h2.1,fun l hl h10=>?_⟩;have h3:=h2.2 l hl;simp only [gq,Bool.and_eq_true,List.all_eq_true,decide_eq_true_eq] at h3;have:=h3.2 10 h10;simp at this
end Vx
end Go.Proofs.YtonkagjdfpacmaaGreatDoor
namespace Go.Proofs.YtonkagjdfpacmaaGreatDoor
namespace Vx
def aq (n:Int):List D:=[.int .i64 n]
@[simp] theorem eInt_inj (a b:Int):(aq a=aq b)=(a=b):=by simp [aq]
def aj (l:List Int):List (List D):=l.map aq
@[simp] theorem eInts_length (l:List Int):(aj l).length=l.length:=by simp [aj]
@[simp] theorem eInts_nil:aj []=[]:=rfl
@[simp] theorem eInts_get (l:List Int) (i:Nat):(aj l)[i]? = l[i]?.map aq:=by simp [aj]
@[simp] theorem eInts_getElem (l:List Int) (i:Nat) (h:i < (aj l).length):(aj l)[i]=aq (l[i]'(by simpa using h)):=by simp [aj]
@[simp] theorem eInts_inj (a b:List Int):(aj a=aj b)=(a=b):=by
 apply propext;constructor
 ·intro h;exact List.map_inj_right (fun x y h=>by simpa using h) |>.1 h
 ·rintro rfl; rfl
@[simp] theorem eInts_eq_nil (a:List Int):(aj a=[])=(a=[]):=by simp [aj]
@[simp] theorem nil_eq_eInts (a:List Int):([]=aj a)=(a=[]):=by simp [aj,eq_comm]
theorem vH (a b:List Int):aj (a++b)=aj a++aj b:=by simp [aj]
theorem vK (l:List Int) (i:Nat):(aj l).take i=aj (l.take i):=by simp [aj]
theorem vI (l:List Int) (i:Nat):(aj l).drop i=aj (l.drop i):=by simp [aj]
theorem nK (a:List Int) (n:Int):aj a++[[.int .i64 n]]=aj (a++[n]):=by simp [aj,aq]
theorem qp (l:List Int) (i:Nat) (n:Int):(aj l).set i [.int .i64 n]=aj (l.set i n):=by simp [aj,List.map_set,aq]
theorem vJ (n:Nat):List.replicate n [D.int .i64 0]=aj (List.replicate n 0):=by simp [aj,aq]
@[simp] theorem eInts_flat (l:List Int):(∀ x ∈ aj l,∀ d ∈ x,jM d)=True:=by
 simp only [eq_iff_iff,iff_true];intro x hx d hd;simp only [aj,List.mem_map] at hx;obtain ⟨s,_,rfl⟩:=hx;simp only [aq,List.mem_singleton] at hd;subst hd;trivial
structure HeadD where
 name:Str
 at_:Int
 deriving DecidableEq,Inhabited
def bw (a:HeadD):List D:=[.str a.name,.int .i64 a.at_]
@[simp] theorem eHead_inj (a b:HeadD):(bw a=bw b)=(a=b):=by cases a; cases b; simp [bw]
@[simp] theorem HeadD.eta (a:HeadD):(⟨a.name,a.at_⟩:HeadD)=a:=rfl
theorem HeadD.eq_iff (a b:HeadD):(a=b)=(a.name=b.name/\a.at_=b.at_):=by cases a; cases b; simp
@[simp] theorem HeadD.ex1 (x_name:Str) (x_at_:Int) (Q:HeadD->Prop):(∃ a:HeadD,a.name=x_name/\a.at_=x_at_/\Q a)=Q ⟨x_name,x_at_⟩:=by
 apply propext;constructor
 ·rintro ⟨⟨_,_⟩,rfl,rfl,h⟩; exact h
 ·intro h; exact ⟨⟨x_name,x_at_⟩,rfl,rfl,h⟩
@[simp] theorem HeadD.ex2 (x_name:Str) (x_at_:Int) (Q:HeadD->Prop):(∃ a:HeadD,(a.name=x_name/\a.at_=x_at_)/\Q a)=Q ⟨x_name,x_at_⟩:=by
 apply propext;constructor
 ·rintro ⟨⟨_,_⟩,⟨rfl,rfl⟩,h⟩; exact h
 ·intro h; exact ⟨⟨x_name,x_at_⟩,⟨rfl,rfl⟩,h⟩
@[simp] theorem HeadD.ex0 (x_name:Str) (x_at_:Int):(∃ a:HeadD,a.name=x_name/\a.at_=x_at_)=True:=by
 simp only [eq_iff_iff,iff_true];exact ⟨⟨x_name,x_at_⟩,rfl,rfl⟩
def ah (l:List HeadD):List (List D):=l.map bw
@[simp] theorem eHeads_length (l:List HeadD):(ah l).length=l.length:=by simp [ah]
@[simp] theorem eHeads_nil:ah []=[]:=rfl
@[simp] theorem eHeads_get (l:List HeadD) (i:Nat):(ah l)[i]? = l[i]?.map bw:=by simp [ah]
@[simp] theorem eHeads_getElem (l:List HeadD) (i:Nat) (h:i < (ah l).length):(ah l)[i]=bw (l[i]'(by simpa using h)):=by simp [ah]
@[simp] theorem eHeads_inj (a b:List HeadD):(ah a=ah b)=(a=b):=by
 apply propext;constructor
 ·intro h;exact List.map_inj_right (fun x y h=>by simpa using h) |>.1 h
 ·rintro rfl; rfl
@[simp] theorem eHeads_eq_nil (a:List HeadD):(ah a=[])=(a=[]):=by simp [ah]
@[simp] theorem nil_eq_eHeads (a:List HeadD):([]=ah a)=(a=[]):=by simp [ah,eq_comm]
theorem vD (a b:List HeadD):ah (a++b)=ah a++ah b:=by simp [ah]
theorem vG (l:List HeadD) (i:Nat):(ah l).take i=ah (l.take i):=by simp [ah]
theorem vE (l:List HeadD) (i:Nat):(ah l).drop i=ah (l.drop i):=by simp [ah]
theorem nJ (a:List HeadD) (s:Str) (n:Int):ah a++[[.str s,.int .i64 n]]=ah (a++[⟨s,n⟩]):=by simp [ah,bw]
theorem lX (l:List HeadD) (i:Nat) (s:Str) (n:Int):(ah l).set i [.str s,.int .i64 n]=ah (l.set i ⟨s,n⟩):=by simp [ah,List.map_set,bw]
theorem vF (n:Nat):List.replicate n [D.str [],D.int .i64 0]=ah (List.replicate n ⟨[],0⟩):=by simp [ah,bw]
@[simp] theorem eHeads_flat (l:List HeadD):(∀ x ∈ ah l,∀ d ∈ x,jM d)=True:=by
 simp only [eq_iff_iff,iff_true];intro x hx d hd;simp only [ah,List.mem_map] at hx;obtain ⟨s,_,rfl⟩:=hx;simp only [bw,List.mem_cons,List.not_mem_nil,or_false] at hd;rcases hd with rfl | rfl <;> trivial
structure CommitD where
 parents:List Int
 who:Str
 tree:List FileD
 deriving DecidableEq,Inhabited
def bm (a:CommitD):List D:=[.sl 3 1 (aj a.parents),.str a.who,.sl 99 2 (ac a.tree)]
@[simp] theorem eCommit_inj (a b:CommitD):(bm a=bm b)=(a=b):=by cases a; cases b; simp [bm]
@[simp] theorem CommitD.eta (a:CommitD):(⟨a.parents,a.who,a.tree⟩:CommitD)=a:=rfl
theorem CommitD.eq_iff (a b:CommitD):(a=b)=(a.parents=b.parents/\a.who=b.who/\a.tree=b.tree):=by cases a; cases b; simp
@[simp] theorem CommitD.ex1 (x_parents:List Int) (x_who:Str) (x_tree:List FileD) (Q:CommitD->Prop):(∃ a:CommitD,a.parents=x_parents/\a.who=x_who/\a.tree=x_tree/\Q a)=Q ⟨x_parents,x_who,x_tree⟩:=by
 apply propext;constructor
 ·rintro ⟨⟨_,_,_⟩,rfl,rfl,rfl,h⟩; exact h
 ·intro h; exact ⟨⟨x_parents,x_who,x_tree⟩,rfl,rfl,rfl,h⟩
@[simp] theorem CommitD.ex2 (x_parents:List Int) (x_who:Str) (x_tree:List FileD) (Q:CommitD->Prop):(∃ a:CommitD,(a.parents=x_parents/\a.who=x_who/\a.tree=x_tree)/\Q a)=Q ⟨x_parents,x_who,x_tree⟩:=by
 apply propext;constructor
 ·rintro ⟨⟨_,_,_⟩,⟨rfl,rfl,rfl⟩,h⟩; exact h
 ·intro h; exact ⟨⟨x_parents,x_who,x_tree⟩,⟨rfl,rfl,rfl⟩,h⟩
@[simp] theorem CommitD.ex0 (x_parents:List Int) (x_who:Str) (x_tree:List FileD):(∃ a:CommitD,a.parents=x_parents/\a.who=x_who/\a.tree=x_tree)=True:=by
 simp only [eq_iff_iff,iff_true];exact ⟨⟨x_parents,x_who,x_tree⟩,rfl,rfl,rfl⟩
def ap (l:List CommitD):List (List D):=l.map bm
@[simp] theorem eCommits_length (l:List CommitD):(ap l).length=l.length:=by simp [ap]
@[simp] theorem eCommits_nil:ap []=[]:=rfl
@[simp] theorem eCommits_get (l:List CommitD) (i:Nat):(ap l)[i]? = l[i]?.map bm:=by simp [ap]
@[simp] theorem eCommits_getElem (l:List CommitD) (i:Nat) (h:i < (ap l).length):(ap l)[i]=bm (l[i]'(by simpa using h)):=by simp [ap]
@[simp] theorem eCommits_inj (a b:List CommitD):(ap a=ap b)=(a=b):=by
 apply propext;constructor
 ·intro h;exact List.map_inj_right (fun x y h=>by simpa using h) |>.1 h
 ·rintro rfl; rfl
@[simp] theorem eCommits_eq_nil (a:List CommitD):(ap a=[])=(a=[]):=by simp [ap]
@[simp] theorem nil_eq_eCommits (a:List CommitD):([]=ap a)=(a=[]):=by simp [ap,eq_comm]
theorem vu (a b:List CommitD):ap (a++b)=ap a++ap b:=by simp [ap]
theorem vC (l:List CommitD) (i:Nat):(ap l).take i=ap (l.take i):=by simp [ap]
theorem vv (l:List CommitD) (i:Nat):(ap l).drop i=ap (l.drop i):=by simp [ap]
theorem je (a:List CommitD) (p:List Int) (w:Str) (t:List FileD):ap a++[[.sl 3 1 (aj p),.str w,.sl 99 2 (ac t)]]=ap (a++[⟨p,w,t⟩]):=by simp [ap,bm]
theorem vA (l:List CommitD) (i:Nat) (p:List Int) (w:Str) (t:List FileD):(ap l).set i [.sl 3 1 (aj p),.str w,.sl 99 2 (ac t)]=ap (l.set i ⟨p,w,t⟩):=by simp [ap,List.map_set,bm]
theorem vz (n:Nat):List.replicate n [D.sl 3 1 [],D.str [],D.sl 99 2 []]=ap (List.replicate n ⟨[],[],[]⟩):=by simp [ap,bm]
structure RepoD where
 commits:List CommitD
 heads:List HeadD
 deriving DecidableEq,Inhabited
def vL (a:RepoD):List D:=[.sl 87 3 (ap a.commits),.sl 89 2 (ah a.heads)]
@[simp] theorem eRepo_inj (a b:RepoD):(vL a=vL b)=(a=b):=by cases a; cases b; simp [vL]
@[simp] theorem RepoD.eta (a:RepoD):(⟨a.commits,a.heads⟩:RepoD)=a:=rfl
theorem RepoD.eq_iff (a b:RepoD):(a=b)=(a.commits=b.commits/\a.heads=b.heads):=by cases a; cases b; simp
@[simp] theorem RepoD.ex1 (x_commits:List CommitD) (x_heads:List HeadD) (Q:RepoD->Prop):(∃ a:RepoD,a.commits=x_commits/\a.heads=x_heads/\Q a)=Q ⟨x_commits,x_heads⟩:=by
 apply propext;constructor
 ·rintro ⟨⟨_,_⟩,rfl,rfl,h⟩; exact h
 ·intro h; exact ⟨⟨x_commits,x_heads⟩,rfl,rfl,h⟩
@[simp] theorem RepoD.ex2 (x_commits:List CommitD) (x_heads:List HeadD) (Q:RepoD->Prop):(∃ a:RepoD,(a.commits=x_commits/\a.heads=x_heads)/\Q a)=Q ⟨x_commits,x_heads⟩:=by
 apply propext;constructor
 ·rintro ⟨⟨_,_⟩,⟨rfl,rfl⟩,h⟩; exact h
 ·intro h; exact ⟨⟨x_commits,x_heads⟩,⟨rfl,rfl⟩,h⟩
@[simp] theorem RepoD.ex0 (x_commits:List CommitD) (x_heads:List HeadD):(∃ a:RepoD,a.commits=x_commits/\a.heads=x_heads)=True:=by
 simp only [eq_iff_iff,iff_true];exact ⟨⟨x_commits,x_heads⟩,rfl,rfl⟩
abbrev bF (r:RepoD):AV:=.agg [.sl true 3 (ap r.commits),.sl true 2 (ah r.heads)]
abbrev kT (h:Nat) (a:List Int):List (Nat × Blk):=[(h,.own 3 1 true (aj a))]
abbrev gB (h:Nat) (a:List HeadD):List (Nat × Blk):=[(h,.own 89 2 true (ah a))]
abbrev iO (h:Nat) (a:List CommitD):List (Nat × Blk):=[(h,.own 87 3 true (ap a))]
end Vx
end Go.Proofs.YtonkagjdfpacmaaGreatDoor
namespace Go.Proofs.YtonkagjdfpacmaaGreatDoor
namespace Vx
open Go.RowKit
def lP (c:CommitD):Prop:=c.parents.length<=1048576/\c.tree.length<=1048576 /\ ∀ g ∈ c.tree,g.text.length<=1048576
def dC (r:RepoD):Prop:=r.commits.length<=1048576/\(∀ c ∈ r.commits,lP c)/\r.heads.length<=1048576
set_option maxHeartbeats 4000000
def sW:Con:=.fn 26 (List Int × List Int) (fun a=>[.sl true 1 (aj a.1),.sl true 1 (aj a.2)]) (fun _=>True) (fun a=>.bool (decide (a.1=a.2))) (fun _=>[])
theorem HA:Has Tryz.prog 149 sW:=by
 refine ag mixed ak HasL.nil [0,1,2,3,4,5] ((fun a n (_:Nat)=>(fun a _=>⟨Nat,fun i=>⟨[(0,true,.sl true 1 (aj a.1)),(1,true,.sl true 1 (aj a.2)),(4,true,.bool false),(5,true,.int .i64 i)],[]⟩,fun i=>i<=a.1.length/\a.1.length=a.2.length/\a.1.take i=a.2.take i,fun i=>a.1.length - i⟩) a n)) [] Tryz.func149 (by unfold Tryz.f149; rfl) (fun _=>⟨(),trivial⟩) ?_
 intro a _;obtain ⟨l,r⟩:=a;simp -implicitDefEqProofs [sW,Con.fn,ae]
 try dsimp only
 try simp +contextual [al,am,aV,aL,aW,List.getElem?_eq_getElem,ba,aN,aT,aY,<- aP,<- aU,aO,aR,aZ,aX,aQ,aS,and_assoc,aq,bw,bm,qp,vJ,vK,vI,nK,<- vH,lX,vF,vG,vE,nJ,<- vD,vA,vz,vC,vv,je,<- vu]
 repeat' (first | intro _ | apply And.intro)
 all_goals first | omega | grind [bl,iB,gR]
def sU:Con:=.fn 15 (HeadD × HeadD) (fun a=>[.agg [.str a.1.name,.int .i64 a.1.at_],.agg [.str a.2.name,.int .i64 a.2.at_]]) (fun _=>True) (fun a=>.bool (decide (a.1=a.2))) (fun _=>[])
theorem Hz:Has Tryz.prog 94 sU:=by
 refine ag mixed ak HasL.nil [0,1,2,3,4] ((fun a n (_:Nat)=>(fun _=>an) a n)) [] Tryz.func94 (by unfold Tryz.f94; rfl) (fun _=>⟨(),trivial⟩) ?_
 intro a _;obtain ⟨⟨p,x⟩,⟨q,y⟩⟩:=a;simp -implicitDefEqProofs [sU,Con.fn,ae]
 try dsimp only
 try simp +contextual [al,am,aV,aL,aW,List.getElem?_eq_getElem,ba,aN,aT,aY,<- aP,<- aU,aO,aR,aZ,aX,aQ,aS,and_assoc]
 repeat' (first | intro _ | apply And.intro)
 all_goals first | omega | grind [bl]
def sV:Con:=.fn 27 (List HeadD × List HeadD) (fun a=>[.sl true 2 (ah a.1),.sl true 2 (ah a.2)]) (fun _=>True) (fun a=>.bool (decide (a.1=a.2))) (fun _=>[])
theorem Hy:Has Tryz.prog 37 sV:=by
 refine ag mixed ak (HasL.cons Hz HasL.nil) [0,1,2,3,4,5] ((fun a n (_:Nat)=>(fun a _=>⟨Nat,fun i=>⟨[(0,true,.sl true 2 (ah a.1)),(1,true,.sl true 2 (ah a.2)),(4,true,.bool false),(5,true,.int .i64 i)],[]⟩,fun i=>i<=a.1.length/\a.1.length=a.2.length/\a.1.take i=a.2.take i,fun i=>a.1.length - i⟩) a n)) [] Tryz.func37 (by unfold Tryz.f37; rfl) (fun _=>⟨(),trivial⟩) ?_
 intro a _;obtain ⟨l,r⟩:=a;simp -implicitDefEqProofs [sV,Con.fn,ae,sU]
 try dsimp only
 try simp +contextual [al,am,aV,aL,aW,List.getElem?_eq_getElem,ba,aN,aT,aY,<- aP,<- aU,aO,aR,aZ,aX,aQ,aS,and_assoc,aq,bw,bm,qp,vJ,vK,vI,nK,<- vH,lX,vF,vG,vE,nJ,<- vD,vA,vz,vC,vv,je,<- vu,<- HeadD.eq_iff]
 repeat' (first | intro _ | apply And.intro)
 all_goals first | omega | grind [bl,iB,gR]
def sO:Con:=.fn 22 (CommitD × CommitD) (fun a=>[.agg [.sl true 1 (aj a.1.parents),.str a.1.who,.sl true 2 (ac a.1.tree)],.agg [.sl true 1 (aj a.2.parents),.str a.2.who,.sl true 2 (ac a.2.tree)]]) (fun _=>True) (fun a=>.bool (decide (a.1=a.2))) (fun _=>[])
theorem Hv:Has Tryz.prog 93 sO:=by
 refine ag mixed ak (HasL.cons HA (HasL.cons Hw HasL.nil)) [0,1,2,3,4] ((fun a n (_:Nat)=>(fun _=>an) a n)) [] Tryz.func93 (by unfold Tryz.f93; rfl) (fun _=>⟨(),trivial⟩) ?_
 intro a _;obtain ⟨⟨p,x,s⟩,⟨q,y,t⟩⟩:=a;simp -implicitDefEqProofs [sO,Con.fn,ae,sW,sR]
 try dsimp only
 try simp +contextual [al,am,aV,aL,aW,List.getElem?_eq_getElem,ba,aN,aT,aY,<- aP,<- aU,aO,aR,aZ,aX,aQ,aS,and_assoc]
 repeat' (first | intro _ | apply And.intro)
 all_goals first | omega | grind [bl]
def sP:Con:=.fn 27 (List CommitD × List CommitD) (fun a=>[.sl true 3 (ap a.1),.sl true 3 (ap a.2)]) (fun _=>True) (fun a=>.bool (decide (a.1=a.2))) (fun _=>[])
theorem Hu:Has Tryz.prog 36 sP:=by
 refine ag mixed ak (HasL.cons Hv HasL.nil) [0,1,2,3,4,5] ((fun a n (_:Nat)=>(fun a _=>⟨Nat,fun i=>⟨[(0,true,.sl true 3 (ap a.1)),(1,true,.sl true 3 (ap a.2)),(4,true,.bool false),(5,true,.int .i64 i)],[]⟩,fun i=>i<=a.1.length/\a.1.length=a.2.length/\a.1.take i=a.2.take i,fun i=>a.1.length - i⟩) a n)) [] Tryz.func36 (by unfold Tryz.f36; rfl) (fun _=>⟨(),trivial⟩) ?_
 intro a _;obtain ⟨l,r⟩:=a;simp -implicitDefEqProofs [sP,Con.fn,ae,sO]
 try dsimp only
 try simp +contextual [al,am,aV,aL,aW,List.getElem?_eq_getElem,ba,aN,aT,aY,<- aP,<- aU,aO,aR,aZ,aX,aQ,aS,and_assoc,aq,bw,bm,qp,vJ,vK,vI,nK,<- vH,lX,vF,vG,vE,nJ,<- vD,vA,vz,vC,vv,je,<- vu,<- CommitD.eq_iff]
 repeat' (first | intro _ | apply And.intro)
 all_goals first | omega | grind [bl,iB,gR]
def pq:Con:=.fn 17 (RepoD × RepoD) (fun a=>[bF a.1,bF a.2]) (fun _=>True) (fun a=>.bool (decide (a.1=a.2))) (fun _=>[])
theorem HC:Has Tryz.prog 14 pq:=by
 refine ag mixed ak (HasL.cons Hu (HasL.cons Hy HasL.nil)) [0,1,2,3,4] ((fun a n (_:Nat)=>(fun _=>an) a n)) [] Tryz.func14 (by unfold Tryz.f14; rfl) (fun _=>⟨(),trivial⟩) ?_
 intro a _;obtain ⟨⟨p,x⟩,⟨q,y⟩⟩:=a;simp -implicitDefEqProofs [pq,Con.fn,ae,sP,sV]
 try dsimp only
 try simp +contextual [al,am,aV,aL,aW,List.getElem?_eq_getElem,ba,aN,aT,aY,<- aP,<- aU,aO,aR,aZ,aX,aQ,aS,and_assoc]
 repeat' (first | intro _ | apply And.intro)
 all_goals first | omega | grind [bl]
set_option maxRecDepth 8000
def ng:Con:=.fn 11 (RepoD × Int) (fun a=>[bF a.1,.int .i64 a.2]) (fun a=>a.1.commits.length<=1073741824) (fun a=>.bool (decide (0<=a.2) && decide (a.2<=(a.1.commits.length:Int) - 1))) (fun _=>[])
theorem vN:Has Tryz.prog 119 ng:=by
 refine ag mixed ak (HasL.cons rQ HasL.nil) [0,1,2,4] ((fun a n (_:Nat)=>(fun _=>an) a n)) [] Tryz.func119 (by unfold Tryz.f119; rfl) (fun _=>⟨(),trivial⟩) ?_
 intro a ha;obtain ⟨r,n⟩:=a;replace ha:r.commits.length<=1073741824:=ha;simp -implicitDefEqProofs [ng,Con.fn,ae,lN]
 try dsimp only
 try simp +contextual -implicitDefEqProofs [al,am,aV,aL,aW,List.getElem?_eq_getElem,ba,aN,aT,aY,<- aP,<- aU,aO,aR,aZ,aX,aQ,aS,and_assoc]
 repeat' (first | intro _ | apply And.intro)
 all_goals first | omega | grind [bl]
def inN (n:Nat) (a:Int):Bool:=decide (0<=a) && decide (a<=(n:Int) - 1)
def d9 (n:Nat) (h:List HeadD) (i:Nat):Bool:=bc (h.getD i default).name && inN n (h.getD i default).at_ && (decide (i=0) || Go.Op.bytesLess (h.getD (i - 1) default).name (h.getD i default).name)
def di (n:Nat) (h:List HeadD):Bool:=decide (h.length<=5) && (List.range h.length).all (d9 n h)
theorem iC (n:Nat) (h:List HeadD):di n h=true ↔ h.length<=5 /\ ∀ i,i < h.length->d9 n h i=true:=by simp -implicitDefEqProofs [di]
theorem Az {n:Nat} {h:List HeadD} {i:Nat} (hi:i < h.length) (hb:d9 n h i=false):di n h=false:=by
 cases hq:di n h with
 | false=>rfl
 | true=>have:=((iC n h).1 hq).2 i hi; simp -implicitDefEqProofs [hb] at this
def s9:Con:=.fn 44 (RepoD × List HeadD) (fun a=>[bF a.1,.sl true 2 (ah a.2)]) (fun a=>a.1.commits.length<=1073741824) (fun a=>.bool (di a.1.commits.length a.2)) (fun _=>[])
theorem II:Has Tryz.prog 67 s9:=by
 refine ag mixed ak (HasL.cons mB (HasL.cons vN HasL.nil)) [0,1,2,4,5,6,10,11,12] ((fun a n (_:Nat)=>(fun a _=>⟨Nat,fun i=>⟨[(1,true,.sl true 2 (ah a.2)),(2,true,.ptr 10 0),(4,true,.bool false),(10,true,.sl true 2 (ah a.2)),(11,true,.int .i64 a.2.length),(12,true,.int .i64 i)],[(10,.box 27 [.sl true 3 (ap a.1.commits),.sl true 2 (ah a.1.heads)])]⟩,fun i=>i<=a.2.length/\a.2.length<=5 /\ ∀ j,j < i->d9 a.1.commits.length a.2 j=true,fun i=>a.2.length - i⟩) a n)) [] Tryz.func67 (by unfold Tryz.f67; rfl) (fun _=>⟨(),trivial⟩) ?_
 intro a ha;obtain ⟨r,t⟩:=a;replace ha:r.commits.length<=1073741824:=ha;have hB:5 < t.length->di r.commits.length t=false:=fun h=>by
  cases hq:di r.commits.length t with
  | false=>rfl
  | true=>have:=((iC _ _).1 hq).1; omega
 have hN:=fun i=>@Az r.commits.length t i;have hE:=(iC r.commits.length t).2;have hg:∀ i (h:i < t.length),t.getD i default=t[i]:=fun i h=>by simp -implicitDefEqProofs [List.getD_eq_getElem?_getD,h]
 have hgg:∀ i (h:i < t.length),t[i]?.getD default=t[i]:=fun i h=>by simp -implicitDefEqProofs [h]
 have e1:∀ k (h:k < t.length),Option.map bw t[k]? = some (bw t[k]):=fun k h=>by simp -implicitDefEqProofs [List.getElem?_eq_getElem h]
 simp -implicitDefEqProofs [s9,Con.fn,ae,jG,ng]
 try dsimp only
 refine fun _=>⟨fun h=>hB (by omega),fun h5 _=>⟨by omega,fun i hi _ hprev=>⟨fun hlt=>?_,fun hge=>hE ⟨by omega,fun j hj=>hprev j (by omega)⟩⟩⟩⟩
 have e3:=e1 i hlt;have e4:=e1 (i - 1) (by omega)
 have hh:d9 r.commits.length t i=(bc t[i].name && inN r.commits.length t[i].at_ && (decide (i=0) || Go.Op.bytesLess (t[i - 1]'(by omega)).name t[i].name)):=by
  unfold d9;rw [hg i hlt,hg (i - 1) (by omega)]
 have hn:=hN i hlt;rw [hh] at hn;unfold inN at hn hh;simp -implicitDefEqProofs [hlt,e3,e4,bw,D.asStr,D.asInt,aL,and_assoc]
 try simp +contextual -implicitDefEqProofs [al,am,aV,aL,aW,List.getElem?_eq_getElem,ba,aN,aT,aY,<- aP,<- aU,aO,aR,aZ,aX,aQ,aS,and_assoc,hlt]
 clear e1 hg hgg hN hE hB
 repeat' (first | intro _ | apply And.intro)
 all_goals first | omega | grind -ring
def fx (cs:List CommitD) (i:Nat):Bool :=
 decide ((cs.getD i default).parents.length<=2) && !(decide ((cs.getD i default).parents.length=2) && decide ((cs.getD i default).parents.getD 0 0=(cs.getD i default).parents.getD 1 0)) && bc (cs.getD i default).who && aA (cs.getD i default).tree
def eM (cs:List CommitD) (i:Nat):Bool:=fx cs i && (List.range (cs.getD i default).parents.length).all fun k=>inN i ((cs.getD i default).parents.getD k 0)
def aF (r:RepoD):Bool:=decide (r.commits.length<=16) && (List.range r.commits.length).all (eM r.commits) && di r.commits.length r.heads
def fM (r:RepoD):Prop:=r.commits.length<=1073741824 /\ ∀ c ∈ r.commits,∀ f ∈ c.tree,f.path.length<=536870912
def cV (r:RepoD):Blk:=.box 27 [.sl true 3 (ap r.commits),.sl true 2 (ah r.heads)]
theorem bR (r:RepoD):cV r = .box 27 [.sl true 3 (ap r.commits),.sl true 2 (ah r.heads)]:=rfl
def riO (r:RepoD):Inv:=⟨Nat,fun i=>⟨[(1,true,.ptr 10 0),(2,true,.bool false),(12,true,.sl true 3 (ap r.commits)),(13,true,.int .i64 r.commits.length),(14,true,.int .i64 i)],[(10,cV r)]⟩,fun i=>i<=r.commits.length/\r.commits.length<=16 /\ ∀ j,j < i->eM r.commits j=true,fun i=>r.commits.length - i⟩
def riI (r:RepoD) (g:Nat):Inv:=⟨Nat,fun k=>⟨[(1,true,.ptr 10 0),(2,true,.bool false),(3,true,.int .i64 g),(12,true,.sl true 3 (ap r.commits)),(13,true,.int .i64 r.commits.length),(14,true,.int .i64 g),(53,true,.sl true 1 (aj (r.commits.getD g default).parents)),(54,true,.int .i64 (r.commits.getD g default).parents.length),(55,true,.int .i64 k)],[(10,cV r)]⟩,
 fun k=>g < r.commits.length/\k<=(r.commits.getD g default).parents.length/\r.commits.length<=16/\(∀ j,j < g->eM r.commits j=true)/\fx r.commits g=true /\ ∀ j,j < k->inN g ((r.commits.getD g default).parents.getD j 0)=true,fun k=>(r.commits.getD g default).parents.length - k⟩
def xG (r:RepoD) (n g:Nat):Inv:=if n=4 then riO r else riI r g
theorem Pq (r:RepoD) (g:Nat):xG r 4 g=riO r:=rfl
theorem Pr (r:RepoD) (g:Nat):xG r 9 g=riI r g:=rfl
theorem mO (r:RepoD):aF r=true ↔ r.commits.length<=16/\(∀ i,i < r.commits.length->eM r.commits i=true)/\di r.commits.length r.heads=true:=by simp -implicitDefEqProofs [aF,and_assoc]
theorem Ph {r:RepoD} {i:Nat} (hi:i < r.commits.length) (hb:eM r.commits i=false):aF r=false:=by
 cases hq:aF r with
 | false=>rfl
 | true=>have:=((mO r).1 hq).2.1 i hi; simp -implicitDefEqProofs [hb] at this
theorem Pg {r:RepoD} (h:16 < r.commits.length):aF r=false:=by
 cases hq:aF r with
 | false=>rfl
 | true=>have:=((mO r).1 hq).1; omega
theorem Nm {cs:List CommitD} {i:Nat} (h:fx cs i=false):eM cs i=false:=by unfold eM; rw [h]; rfl
theorem Nn {cs:List CommitD} {i k:Nat} (hk:k < (cs.getD i default).parents.length) (h:inN i ((cs.getD i default).parents.getD k 0)=false):eM cs i=false:=by
 unfold eM;have:(List.range (cs.getD i default).parents.length).all (fun k=>inN i ((cs.getD i default).parents.getD k 0))=false:=by
  rw [List.all_eq_false];exact ⟨k,List.mem_range.2 hk,by simpa using h⟩
 rw [this,Bool.and_false]
theorem Nr {cs:List CommitD} {i:Nat} (h:fx cs i=true) (h2:∀ k,k < (cs.getD i default).parents.length->inN i ((cs.getD i default).parents.getD k 0)=true):eM cs i=true:=by
 unfold eM;rw [h,Bool.true_and,List.all_eq_true];intro k hk;exact h2 k (by simpa using hk)
def jH:Con:=.fn 70 RepoD (fun r=>[bF r]) fM (fun r=>.bool (aF r)) (fun _=>[])
theorem mP:Has Tryz.prog 30 jH:=by
 refine ag mixed ak (HasL.cons mB (HasL.cons lk (HasL.cons rQ (HasL.cons II HasL.nil)))) [0,1,2,3,4,6,12,13,14,53,54,55] (fun r=>xG r) [] Tryz.func30 (by unfold Tryz.f30; rfl) (fun _=>⟨(),trivial⟩) ?_
 intro (r:RepoD) hr;obtain ⟨hr1,hr2⟩:r.commits.length<=1073741824 /\ ∀ c ∈ r.commits,∀ f ∈ c.tree,f.path.length<=536870912:=hr;have hp:∀ i (h:i < r.commits.length),∀ f ∈ r.commits[i].tree,f.path.length<=536870912:=fun i h=>hr2 _ (List.getElem_mem h);have hB:=@Pg r;have hN:=fun i=>@Ph r i;have hN1:=fun i=>@Nm r.commits i;have hN2:=fun i k=>@Nn r.commits i k;have hY:=fun i=>@Nr r.commits i;simp -implicitDefEqProofs [jH,Con.fn,ae,jG,ja,lN,s9,Pq,Pr,riO,riI,bR]
 try dsimp only
 refine fun _=>⟨fun h=>hB (by omega),fun h16 _=>⟨by omega,fun i hi _ hprev=>⟨fun hlt=>?_,fun hge=>?_⟩⟩⟩
 ·have e3:Option.map bm r.commits[i]? = some (bm r.commits[i]):=by simp -implicitDefEqProofs [List.getElem?_eq_getElem hlt]
  have hgc:r.commits.getD i default=r.commits[i]:=by simp -implicitDefEqProofs [List.getD_eq_getElem?_getD,hlt]
  have hpc:=hp i hlt;have n0:=hN i hlt;have n1:=hN1 i;have n2:=hN2 i;have n3:=hY i;have o1:fx r.commits i=(decide (r.commits[i].parents.length<=2) && !(decide (r.commits[i].parents.length=2) && decide (r.commits[i].parents.getD 0 0=r.commits[i].parents.getD 1 0)) && bc r.commits[i].who && aA r.commits[i].tree):=by unfold fx; rw [hgc]
  rw [hgc] at n2 n3;simp -implicitDefEqProofs [hlt,e3,bm,D.asStr,D.asRows,aL,and_assoc]
  try simp only [show r.commits[i]?.getD default=r.commits[i] by simp -implicitDefEqProofs [hlt]]
  generalize r.commits[i]=c at hpc n2 n3 o1 ⊢;have hq:∀ k (h:k < c.parents.length),inN i (c.parents[k]?.getD 0)=(decide (0<=c.parents[k]) && decide (c.parents[k]<=(i:Int) - 1)):=fun k h=>by simp -implicitDefEqProofs [inN,h]
  have n4:∀ k (h:k < c.parents.length),(decide (0<=c.parents[k]) && decide (c.parents[k]<=(i:Int) - 1))=false->aF r=false:=fun k h hb=>n0 (n2 k h (by rw [List.getD_eq_getElem?_getD,hq k h]; exact hb))
  have n5:fx r.commits i=false->aF r=false:=fun h=>n0 (n1 h);have n6:fx r.commits i=true->(∀ j,j < c.parents.length->inN i (c.parents[j]?.getD 0)=true) -> ∀ j,j < i+1->eM r.commits j=true:=fun h1 h2 j hj=>by
   rcases Nat.lt_or_ge j i with h3 | h3
   ·exact hprev j h3
   ·have:j=i:=by omega
    subst this;exact n3 h1 (fun k hk=>by rw [List.getD_eq_getElem?_getD]; exact h2 k hk)
  clear n3 n2 n1 n0 hN hN1 hN2 hY hp hr2 hB hgc e3;have o2:∀ (h:c.parents.length=2),fx r.commits i=(!(decide (c.parents[0]=c.parents[1])) && bc c.who && aA c.tree):=fun h=>by rw [o1]; simp -implicitDefEqProofs [h]
  have o3:c.parents.length<=2 -> ¬ c.parents.length=2->fx r.commits i=(bc c.who && aA c.tree):=fun h h'=>by rw [o1]; simp -implicitDefEqProofs [h,h']
  have o4:2 < c.parents.length->fx r.commits i=false:=fun h=>by rw [o1]; simp -implicitDefEqProofs [show ¬ c.parents.length<=2 by omega]
  clear o1;refine ⟨fun h=>n5 (o4 (by omega)),fun hl2=>⟨fun h2=>?_,fun h2=>?_⟩⟩
  ·have q0:Option.map aq c.parents[0]? = some (aq c.parents[0]):=by simp -implicitDefEqProofs [List.getElem?_eq_getElem (show 0 < c.parents.length by omega)]
   have q1:Option.map aq c.parents[1]? = some (aq c.parents[1]):=by simp -implicitDefEqProofs [List.getElem?_eq_getElem (show 1 < c.parents.length by omega)]
   have o5:=o2 (by omega)
   simp -implicitDefEqProofs [q0,q1,aq];refine ⟨by omega,fun _=>⟨by omega,fun _=>⟨fun he=>n5 (by rw [o5]; simp -implicitDefEqProofs [he]),fun he=>⟨fun hn=>n5 (by rw [o5]; simp -implicitDefEqProofs [hn]),fun hn=>⟨hpc,fun ht=>n5 (by rw [o5]; simp -implicitDefEqProofs [ht]),fun ht _=>⟨by omega,hprev,by rw [o5]; simp -implicitDefEqProofs [he,hn,ht],fun t ht1 _ _ hok hinv=>?_⟩⟩⟩⟩⟩⟩
   clear o2 o3 o4 o5 n5;refine ⟨fun hlt2=>?_,fun hge2=>?_⟩
   ·have qt:Option.map aq c.parents[t]? = some (aq c.parents[t]):=by simp -implicitDefEqProofs [List.getElem?_eq_getElem hlt2]
    have n7:=n4 t hlt2;have q7:=hq t hlt2;simp -implicitDefEqProofs [qt,aq,hlt2];have n8:0<=c.parents[t]->c.parents[t]<=(i:Int) - 1 -> ∀ j,j < t+1->inN i (c.parents[j]?.getD 0)=true:=fun g1 g2 j hj=>by
     rcases Nat.lt_or_ge j t with h3 | h3
     ·exact hinv j h3
     ·have:j=t:=by omega
      subst this;rw [q7];simp -implicitDefEqProofs [g1,g2]
    refine ⟨by omega,by omega,fun _ _=>⟨fun h=>n7 (by simp; omega),fun g1 g2=>⟨by omega,by omega,fun _ _=>⟨t+1,rfl,by omega,by omega,hprev,hok,n8 g1 g2,by omega⟩⟩⟩⟩
   ·have n7:=n6 hok (fun j hj=>hinv j (by omega))
    exact ⟨by omega,by omega,fun _ _=>⟨i+1,rfl,by omega,by omega,n7,by omega⟩⟩
  ·have o5:=o3 (by omega) (by omega)
   refine ⟨fun hn=>n5 (by rw [o5]; simp -implicitDefEqProofs [hn]),fun hn=>⟨hpc,fun ht=>n5 (by rw [o5]; simp -implicitDefEqProofs [ht]),fun ht _=>⟨by omega,hprev,by rw [o5]; simp -implicitDefEqProofs [hn,ht],fun t ht1 _ _ hok hinv=>?_⟩⟩⟩
   clear o2 o3 o4 o5 n5;refine ⟨fun hlt2=>?_,fun hge2=>?_⟩
   ·have qt:Option.map aq c.parents[t]? = some (aq c.parents[t]):=by simp -implicitDefEqProofs [List.getElem?_eq_getElem hlt2]
    have n7:=n4 t hlt2;have q7:=hq t hlt2;simp -implicitDefEqProofs [qt,aq,hlt2];have n8:0<=c.parents[t]->c.parents[t]<=(i:Int) - 1 -> ∀ j,j < t+1->inN i (c.parents[j]?.getD 0)=true:=fun g1 g2 j hj=>by
     rcases Nat.lt_or_ge j t with h3 | h3
     ·exact hinv j h3
     ·have:j=t:=by omega
      subst this;rw [q7];simp -implicitDefEqProofs [g1,g2]
    refine ⟨by omega,by omega,fun _ _=>⟨fun h=>n7 (by simp; omega),fun g1 g2=>⟨by omega,by omega,fun _ _=>⟨t+1,rfl,by omega,by omega,hprev,hok,n8 g1 g2,by omega⟩⟩⟩⟩
   ·have n7:=n6 hok (fun j hj=>hinv j (by omega))
    exact ⟨by omega,by omega,fun _ _=>⟨i+1,rfl,by omega,by omega,n7,by omega⟩⟩
 ·refine ⟨r,r.heads,⟨⟨rfl,rfl⟩,rfl⟩,hr1,?_⟩;rw [Bool.eq_iff_iff,mO];exact ⟨fun h=>h.2.2,fun h=>⟨by omega,fun j hj=>hprev j (by omega),h⟩⟩
def gA (i:Nat) (ps:List Int) (k:Nat):Bool:=inN i (ps.getD k 0) && !(decide (0 < k) && decide (ps.getD k 0=ps.getD 0 0))
def gz (c:CommitD):Bool:=decide (c.parents.length<=2) && bc c.who && bi c.tree
def dH (cs:List CommitD) (i:Nat):Bool:=(List.range (cs.getD i default).parents.length).all (gA i (cs.getD i default).parents) && gz (cs.getD i default)
def az (r:RepoD):Bool:=(List.range r.commits.length).all (dH r.commits) && di r.commits.length r.heads && decide (r.commits.length<=16)
theorem cQ (r:RepoD):az r=true ↔ (∀ i,i < r.commits.length->dH r.commits i=true)/\di r.commits.length r.heads=true/\r.commits.length<=16:=by simp -implicitDefEqProofs [az,and_assoc]
theorem Pj {r:RepoD} {i:Nat} (hi:i < r.commits.length) (hb:dH r.commits i=false):az r=false:=by
 cases hq:az r with
 | false=>rfl
 | true=>have:=((cQ r).1 hq).1 i hi; simp -implicitDefEqProofs [hb] at this
theorem Pk {r:RepoD} (hb:di r.commits.length r.heads=false):az r=false:=by unfold az; rw [hb]; simp
theorem Ns {cs:List CommitD} {i:Nat} (h:gz (cs.getD i default)=false):dH cs i=false:=by unfold dH; rw [h,Bool.and_false]
theorem Nt {cs:List CommitD} {i k:Nat} (hk:k < (cs.getD i default).parents.length) (h:gA i (cs.getD i default).parents k=false):dH cs i=false:=by
 unfold dH;have:(List.range (cs.getD i default).parents.length).all (gA i (cs.getD i default).parents)=false:=by
  rw [List.all_eq_false];exact ⟨k,List.mem_range.2 hk,by simpa using h⟩
 rw [this,Bool.false_and]
theorem Nu {cs:List CommitD} {i:Nat} (h:gz (cs.getD i default)=true) (h2:∀ k,k < (cs.getD i default).parents.length->gA i (cs.getD i default).parents k=true):dH cs i=true:=by
 unfold dH;rw [h,Bool.and_true,List.all_eq_true];intro k hk;exact h2 k (by simpa using hk)
theorem cu (r:RepoD):aF r=az r:=by
 have h:∀ i,eM r.commits i=dH r.commits i:=by
  intro i;unfold eM dH fx gz;generalize r.commits.getD i default=c;rw [eE];rw [Bool.eq_iff_iff];simp only [Bool.and_eq_true,List.all_eq_true,List.mem_range,decide_eq_true_eq,gA,Bool.not_eq_true',Bool.and_eq_false_iff,decide_eq_false_iff_not];constructor
  ·rintro ⟨⟨⟨⟨h1,h2⟩,h3⟩,h4⟩,h5⟩;refine ⟨fun k hk=>⟨h5 k hk,?_⟩,⟨h1,h3⟩,h4⟩;by_cases h0:k=0
   ·exact .inl (by omega)
   ·right
    have:k=1:=by omega
    subst this;rcases h2 with h2 | h2
    ·omega
    ·exact fun e=>h2 e.symm
  ·rintro ⟨h1,⟨h2,h3⟩,h4⟩;refine ⟨⟨⟨⟨h2,?_⟩,h3⟩,h4⟩,fun k hk=>(h1 k hk).1⟩;by_cases h0:c.parents.length=2
   ·right
    rcases (h1 1 (by omega)).2 with h5 | h5
    ·omega
    ·exact fun e=>h5 e.symm
   ·exact .inl h0
 rw [Bool.eq_iff_iff,mO,cQ];simp only [h];exact ⟨fun ⟨a,b,c⟩=>⟨b,c,a⟩,fun ⟨b,c,a⟩=>⟨a,b,c⟩⟩
def rsO (r:RepoD):Inv:=⟨Nat,fun i=>⟨[(1,true,.ptr 10 0),(2,true,.bool false),(3,true,.int .i64 i)],[(10,cV r)]⟩,fun i=>i<=r.commits.length /\ ∀ j,j < i->dH r.commits j=true,fun i=>r.commits.length - i⟩
def rsI (r:RepoD) (g:Nat):Inv:=⟨Nat,fun k=>⟨[(1,true,.ptr 10 0),(2,true,.bool false),(3,true,.int .i64 g),(4,true,.ptr 11 0),(5,true,.int .i64 k)],[(10,cV r),(11,.box 87 [.sl true 1 (aj (r.commits.getD g default).parents),.str (r.commits.getD g default).who,.sl true 2 (ac (r.commits.getD g default).tree)])]⟩,
 fun k=>g < r.commits.length/\k<=(r.commits.getD g default).parents.length/\(∀ j,j < g->dH r.commits j=true) /\ ∀ j,j < k->gA g (r.commits.getD g default).parents j=true,fun k=>(r.commits.getD g default).parents.length - k⟩
def rsH (r:RepoD):Inv:=⟨Nat,fun i=>⟨[(1,true,.ptr 10 0),(2,true,.bool false),(6,true,.int .i64 i)],[(10,cV r)]⟩,fun i=>i<=r.heads.length/\(∀ j,j < r.commits.length->dH r.commits j=true) /\ ∀ j,j < i->d9 r.commits.length r.heads j=true,fun i=>r.heads.length - i⟩
def rz (r:RepoD) (n g:Nat):Inv:=if n=2 then rsO r else if n=6 then rsI r g else rsH r
theorem Py (r:RepoD) (g:Nat):rz r 2 g=rsO r:=rfl
theorem Pz (r:RepoD) (g:Nat):rz r 6 g=rsI r g:=rfl
theorem Px (r:RepoD) (g:Nat):rz r 13 g=rsH r:=rfl
def i6:Con:=.fn 126 RepoD (fun r=>[bF r]) (fun r=>r.commits.length<=1073741824) (fun r=>.bool (az r)) (fun _=>[])
theorem kP:Has Tryz.prog 143 i6:=by
 refine ag mixed ak (HasL.cons kO (HasL.cons mq (HasL.cons nW HasL.nil))) [0,1,2,3,4,5,6] (fun r=>rz r) [] Tryz.func143 (by unfold Tryz.f143; rfl) (fun _=>⟨(),trivial⟩) ?_
 intro (r:RepoD) hr;replace hr:r.commits.length<=1073741824:=hr;have hN:=fun i=>@Pj r i;have hN1:=fun i=>@Ns r.commits i;have hN2:=fun i k=>@Nt r.commits i k;have hY:=fun i=>@Nu r.commits i;have hM:=fun i=>@Az r.commits.length r.heads i;have hH:=@Pk r;simp -implicitDefEqProofs [i6,Con.fn,ae,jF,kr,iZ,Py,Pz,Px,rsO,rsI,rsH,bR]
 try dsimp only
 refine fun i hi hprev _=>⟨fun hlt=>?_,fun hge=>?_⟩
 ·have e3:Option.map bm r.commits[i]? = some (bm r.commits[i]):=by simp -implicitDefEqProofs [List.getElem?_eq_getElem hlt]
  have hgc:r.commits.getD i default=r.commits[i]:=by simp -implicitDefEqProofs [List.getD_eq_getElem?_getD,hlt]
  have n0:=hN i hlt;have n1:=hN1 i;have n2:=hN2 i;have n3:=hY i;rw [hgc] at n1 n2 n3;simp -implicitDefEqProofs [hlt,e3,bm,D.asStr,D.asRows,aL,and_assoc]
  try simp only [show r.commits[i]?.getD default=r.commits[i] by simp -implicitDefEqProofs [hlt]]
  generalize r.commits[i]=c at n1 n2 n3 ⊢;clear hN hN1 hN2 hY hM hH e3 hgc;refine ⟨hprev,fun t ht _ hinv _=>⟨fun hlt2=>?_,fun hge2=>?_⟩⟩
  ·have qt:Option.map aq c.parents[t]? = some (aq c.parents[t]):=by simp -implicitDefEqProofs [List.getElem?_eq_getElem hlt2]
   have q0:Option.map aq c.parents[0]? = some (aq (c.parents[0]'(by omega))):=by simp -implicitDefEqProofs [List.getElem?_eq_getElem (show 0 < c.parents.length by omega)]
   have o:gA i c.parents t=((decide (0<=c.parents[t]) && decide (c.parents[t]<=(i:Int) - 1)) && !(decide (0 < t) && decide (c.parents[t]=c.parents[0]'(by omega)))):=by
    unfold gA inN;rw [show c.parents.getD t 0=c.parents[t] by simp -implicitDefEqProofs [List.getD_eq_getElem?_getD,hlt2],show c.parents.getD 0 0=c.parents[0]'(by omega) by simp -implicitDefEqProofs [List.getD_eq_getElem?_getD,show 0 < c.parents.length by omega]]
   have n7:gA i c.parents t=false->az r=false:=fun h=>n0 (n2 t hlt2 h);have n8:gA i c.parents t=true -> ∀ j,j < t+1->gA i c.parents j=true:=fun h j hj=>by
    rcases Nat.lt_or_ge j t with h3 | h3
    ·exact hinv j h3
    ·have:j=t:=by omega
     subst this; exact h
   simp -implicitDefEqProofs [qt,q0,aq,hlt2];refine ⟨by omega,by omega,fun _ _=>⟨fun h=>?_,fun g1 g2=>⟨fun h0=>⟨by omega,fun _=>⟨fun he=>n7 (by rw [o]; simp -implicitDefEqProofs [he,h0]),fun he=>⟨by omega,by omega,fun _ _=>⟨t+1,rfl,by omega,hprev,n8 (by rw [o]; simp -implicitDefEqProofs [g1,g2,he]),by omega⟩⟩⟩⟩,
    fun h0=>⟨by omega,by omega,fun _ _=>⟨t+1,rfl,by omega,hprev,n8 (by rw [o,show decide (0 < t)=false by simp -implicitDefEqProofs [h0]]; simp -implicitDefEqProofs [g1,g2]),by omega⟩⟩⟩⟩⟩
   have:az r=false:=n7 (by rw [o]; simp; omega)
   exact ⟨fun _=>this,fun _=>this⟩
  ·have n9:gz c=false->az r=false:=fun h=>n0 (n1 h);have n10:gz c=true -> ∀ j,j < i+1->dH r.commits j=true:=fun h j hj=>by
    rcases Nat.lt_or_ge j i with h3 | h3
    ·exact hprev j h3
    ·have:j=i:=by omega
     subst this;exact n3 h (fun k hk=>hinv k (by omega))
   refine fun _=>⟨fun h=>n9 (by simp -implicitDefEqProofs [gz]; omega),fun h=>⟨fun hn=>n9 (by simp -implicitDefEqProofs [gz,hn]),fun hn=>⟨fun ht=>n9 (by simp -implicitDefEqProofs [gz,ht]),fun ht=>⟨by omega,by omega,fun _ _=>⟨i+1,rfl,by omega,n10 (by simp -implicitDefEqProofs [gz,hn,ht]; omega),by omega⟩⟩⟩⟩⟩
 ·clear hN hN1 hN2 hY;have hall:∀ j,j < r.commits.length->dH r.commits j=true:=fun j hj=>hprev j (by omega)
  refine ⟨hall,fun t ht _ hinv _=>⟨fun hlt2=>?_,fun hge2 _=>?_⟩⟩
  ·generalize hhs:r.heads=hs at *;have e3:Option.map bw hs[t]? = some (bw hs[t]):=by simp -implicitDefEqProofs [List.getElem?_eq_getElem hlt2]
   have e4:Option.map bw hs[t - 1]? = some (bw (hs[t - 1]'(by omega))):=by simp -implicitDefEqProofs [List.getElem?_eq_getElem (show t - 1 < hs.length by omega)]
   have hh:d9 r.commits.length hs t=(bc hs[t].name && inN r.commits.length hs[t].at_ && (decide (t=0) || Go.Op.bytesLess (hs[t - 1]'(by omega)).name hs[t].name)):=by
    unfold d9;rw [show hs.getD t default=hs[t] by simp -implicitDefEqProofs [List.getD_eq_getElem?_getD,hlt2],show hs.getD (t - 1) default=hs[t - 1]'(by omega) by simp -implicitDefEqProofs [List.getD_eq_getElem?_getD,show t - 1 < hs.length by omega]]
   have n7:d9 r.commits.length hs t=false->az r=false:=fun h=>hH (hM t hlt2 h);have n8:d9 r.commits.length hs t=true -> ∀ j,j < t+1->d9 r.commits.length hs j=true:=fun h j hj=>by
    rcases Nat.lt_or_ge j t with h3 | h3
    ·exact hinv j h3
    ·have:j=t:=by omega
     subst this; exact h
   have hq:=BO hs[t].name (hs[t - 1]'(by omega)).name
   rw [fk] at hh;unfold mu at hq;rw [hh] at n7 n8;unfold inN at n7 n8;clear hh hH hM;simp -implicitDefEqProofs [hlt2,e3,e4,bw,D.asStr,D.asInt,aL,and_assoc]
   try simp +contextual -implicitDefEqProofs [al,am,aV,aL,aW,List.getElem?_eq_getElem,ba,aN,aT,aY,<- aP,<- aU,aO,aR,aZ,aX,aQ,aS,and_assoc,hlt2]
   clear e3 e4 hinv hprev
   repeat' (first | intro _ | apply And.intro)
   all_goals first | omega | grind -ring
  ·have h2:di r.commits.length r.heads=decide (r.heads.length<=5):=by
    unfold di;have:(List.range r.heads.length).all (d9 r.commits.length r.heads)=true:=by
     rw [List.all_eq_true];intro j hj;have hj':j < r.heads.length:=by simpa using hj
     exact hinv j (by omega)
    rw [this,Bool.and_true]
   refine ⟨fun h16 _=>?_,fun h16=>?_⟩
   ·rw [Bool.eq_iff_iff,cQ,h2];simp only [decide_eq_true_eq];exact ⟨fun h=>by have:=h.2.1; omega,fun h=>⟨hall,by omega,by omega⟩⟩
   ·cases hq:az r with
    | false=>rfl
    | true=>have:=((cQ r).1 hq).2.2; omega
theorem QE:∀ {a:List Str} {l:Int},0<=szL a l -> ∀ s ∈ a,(s.length:Int)<=l:=by
 intro a
 induction a with
 | nil=>intro l _ s hs; cases hs
 | cons x r ih =>
  intro l h s hs;simp only [szL] at h;split at h
  ·omega
  ·rcases List.mem_cons.1 hs with rfl | hs
   ·have:=QD (a:=r) (l:=l - s.length) (by omega); omega
   ·have:=ih h s hs; omega
theorem QH {a:List Str} {l:Int} (h:0<=li a l):(a.length:Int)<=l /\ ∀ s ∈ a,(s.length:Int)<=l:=by
 unfold li at h;split at h
 ·omega
 ·refine ⟨by omega,fun s hs=>?_⟩
  have:=QE h s hs; omega

def atB (p q:Str):Bool:=decide (p=q) || ij (q++[47]) p
def pz:Con:=.fn 16 (FileD × Str) (fun a=>[.agg [.str a.1.path,.sl true 1 (aa a.1.text)],.str a.2]) (fun a=>a.2.length<=536870912) (fun a=>.bool (atB a.1.path a.2)) (fun _=>[])
theorem AY:Has Tryz.prog 127 pz:=by
 refine ag mixed ak (HasL.cons Aw HasL.nil) [0,1,2,4] ((fun a n (_:Nat)=>(fun _=>an) a n)) [] Tryz.func127 (by unfold Tryz.f127; rfl) (fun _=>⟨(),trivial⟩) ?_
 intro a ha;obtain ⟨⟨p,x⟩,q⟩:=a;replace ha:q.length<=536870912:=ha;simp -implicitDefEqProofs [pz,Con.fn,ae,pw]
 try dsimp only
 try simp +contextual [al,am,aV,aL,aW,List.getElem?_eq_getElem,ba,aN,aT,aY,<- aP,<- aU,aO,aR,aZ,aX,aQ,aS,and_assoc]
 repeat' (first | intro _ | apply And.intro)
 all_goals first | omega | grind [bl,atB,maxLen]
theorem yE (f:FileD) (q:Str):atB f.path q=(decide (q=f.path) || inB q f.path):=by
 unfold atB;rw [wb]
 congr 1
 simp only [eq_comm]
def lW:Nat->Nat->Str->Str
 | 0,_,out=>out
 | f+1,k,out=>if k=0 then out else lW f (k / 10) (UInt8.ofNat (48+k % 10) :: out)
theorem G5:∀ {f g k:Nat} {out:Str},k < f->k < g->lW f k out=lW g k out:=by
 intro f
 induction f with
 | zero=>intro g k out h; omega
 | succ f ih =>
  intro g k out h1 h2;cases g with
  | zero=>omega
  | succ g =>
   simp only [lW];split
   ·rfl
   ·exact ih (by omega) (by omega)
def dig (k:Nat) (out:Str):Str:=lW (k+1) k out
theorem G6 {k:Nat} {out:Str} (h:0 < k):dig k out=dig (k / 10) (UInt8.ofNat (48+k % 10) :: out):=by
 unfold dig;rw [lW,if_neg (by omega)]
 exact G5 (by omega) (by omega)
def cH (k:Int):Str:=if k<=0 then [109,48] else 109 :: dig k.toNat []
def iw:Con:=.fn 20 Int (fun k=>[.int .i64 k]) (fun k=>k<=4611686018427387904) (fun k=>.str (cH k)) (fun _=>[])
theorem jR:Has Tryz.prog 38 iw:=by
 refine ag mixed ak HasL.nil [0,2,3] ((fun a n (_:Nat)=>(fun k _=>⟨Int × Str,fun t=>⟨[(0,true,.int .i64 t.1),(2,true,.str []),(3,true,.str t.2)],[]⟩,fun t=>0<=t.1/\0 < (show Int from k)/\t.2.length+t.1.toNat<=(show Int from k).toNat/\dig t.1.toNat t.2=dig (show Int from k).toNat [],fun t=>t.1.toNat⟩) a n)) [] Tryz.func38 (by unfold Tryz.f38; rfl) (fun _=>⟨(),trivial⟩) ?_
 intro (k:Int) hk;replace hk:k<=4611686018427387904:=hk;have hm:∀ n:Int,0<=n->n.tmod 10=n % 10:=fun n h=>Int.tmod_eq_emod_of_nonneg h;have hq:∀ n:Int,0<=n->n.tdiv 10=n / 10:=fun n h=>Int.tdiv_eq_ediv_of_nonneg h;have hs:∀ (n:Int) (out:Str),0 < n->dig n.toNat out=dig (n / 10).toNat (UInt8.ofNat (48+n % 10).toNat :: out):=fun n out h=>by
  rw [G6 (by omega)]
  congr 1
  ·omega
  ·congr 2; omega
 have hz:∀ out:Str,dig 0 out=out:=fun _=>rfl;have hM:maxLen=9223372036854775807:=rfl;simp -implicitDefEqProofs [iw,Con.fn,ae]
 try dsimp only
 refine ⟨fun h=>by simp [cH,h],fun h0=>⟨⟨k,[],⟨rfl,rfl⟩,by omega,h0,by simp,rfl⟩,?_⟩⟩
 intro a b ha _ hl hd;rw [hm a ha,hq a ha,hM];refine ⟨fun hpos=>⟨by omega,fun _ _=>⟨by omega,fun _ _=>⟨by omega,fun _=>⟨by omega,fun _=>⟨by omega,fun _ _=>⟨_,_,⟨rfl,rfl⟩,⟨by omega,h0,by simp only [List.length_cons]; omega,?_⟩,by omega⟩⟩⟩⟩⟩⟩,fun hz0=>⟨by omega,fun _=>?_⟩⟩
 ·rw [<- hs a b hpos,hd]
 ·obtain rfl:a=0:=by omega
  rw [show dig (Int.toNat 0) b=b from rfl] at hd
  simp only [cH,if_neg (show ¬ k<=0 by omega),hd]
def cL (n:Nat) (k:Int):List Str:=(List.range n).map fun i:Nat=>cH (k+(i:Int))
theorem od (n:Nat) (k:Int):(cL n k).length=n:=by simp [cL]
theorem BV (n:Nat) (k:Int):cL (n+1) k=cL n k++[cH (k+n)]:=by simp [cL,List.range_succ]
def gW (a:List Str) (k:Int) (i:Nat):List Str:=cL i k++a.drop i
theorem LV {a:List Str} {k:Int} {i:Nat} (h:i<=a.length):(gW a k i).length=a.length:=by simp [gW,od]; omega
theorem LW {a:List Str} {k:Int} {i:Nat} (h:i < a.length):(gW a k i).set i (cH (k+i))=gW a k (i+1):=by
 unfold gW;have e:(l':List Str)->l'=a.drop i->l'.set 0 (cH (k+i))=cH (k+i) :: a.drop (i+1):=by
  rintro _ rfl;rw [List.drop_eq_getElem_cons h]; rfl
 rw [List.set_append_right _ _ (by simp [od]),od,Nat.sub_self,BV,e _ rfl]
 simp
theorem LX (a:List Str) (k:Int):gW a k 0=a:=by simp [gW,cL]
theorem LU {a:List Str} {k:Int} {i:Nat} (h:a.length<=i) (h2:i<=a.length):gW a k i=cL a.length k:=by
 obtain rfl:i=a.length:=by omega
 simp [gW]
def uh:Con:={ A:=List Str × Int,X:=Unit,n:=20,args:=fun a=>[.own 0 1 (aa a.1),.int .i64 a.2],boxes:=fun _=>[],pre:=fun a=>0<=a.2/\a.2+a.1.length<=4611686018427387904,post:=fun _ _=>True,res:=fun a _=>.int .i64 (a.2+a.1.length),fin:=fun a _=>[(0,.own 9 1 true (aa (cL a.1.length a.2)))],owns:=fun a=>[(0,9,1,aa a.1)],lends:=[0],mv:=true,sube:=9 }
theorem MH:Has Tryz.prog 39 uh:=by
 refine ag mixed ak (HasL.cons jR HasL.nil) [0,1,4,5] ((fun a n (_:Nat)=>(fun a _=>⟨Nat,fun i=>⟨[(0,true,.own 0 1 (aa (gW a.1 a.2 i))),(1,true,.int .i64 (a.2+i)),(4,true,.int .i64 0),(5,true,.int .i64 i)],[(0,.own 9 1 true (aa (gW a.1 a.2 i)))]⟩,fun i=>i<=a.1.length,fun i=>a.1.length - i⟩) a n)) [] Tryz.func39 (by unfold Tryz.f39; rfl) (fun _=>⟨(),trivial⟩) ?_
 intro a ha;obtain ⟨l,k⟩:=a;obtain ⟨h1,h2⟩:0<=k/\k+l.length<=4611686018427387904:=ha;have e1:=fun i=>@LV l k i;have e2:=fun i=>@LW l k i;have e3:=LX l k;have e4:=fun i=>@LU l k i;simp -implicitDefEqProofs [uh,Con.fn,ae,iw]
 try dsimp only
 try simp +contextual [al,am,aV,aL,aW,List.getElem?_eq_getElem,ba,aN,aT,aY,<- aP,<- aU,aO,aR,aZ,aX,aQ,aS,and_assoc,e1,e2,e3]
 repeat' (first | intro _ | apply And.intro)
 all_goals first | omega | grind [bl]
def jO (a:List Str) (k:Int):Int:=if a=cL a.length k then k+a.length else -1
def tj:Con:=.fn 22 (List Str × Int) (fun a=>[.sl true 1 (aa a.1),.int .i64 a.2]) (fun a=>0<=a.2/\a.2+a.1.length<=4611686018427387904) (fun a=>.int .i64 (jO a.1 a.2)) (fun _=>[])
theorem I6 {a:List Str} {k:Int} {i:Nat} (h:a.length<=i) (h2:i<=a.length) (h3:a.take i=cL i k):jO a k=k+i:=by
 obtain rfl:i=a.length:=by omega
 rw [List.take_length] at h3;unfold jO;rw [if_pos h3]
theorem I7 {a:List Str} {k:Int} {i:Nat} (h:i < a.length) (h2:a[i] ≠ cH (k+i)):jO a k = -1:=by
 unfold jO;rw [if_neg];intro h3;apply h2;have:a[i]? = (cL a.length k)[i]?:=by rw [<- h3]
 rw [List.getElem?_eq_getElem h] at this
 simpa [cL,h] using this
theorem I8 {a:List Str} {k:Int} {i:Nat} (h:i < a.length) (h2:a[i]=cH (k+i)) (h3:a.take i=cL i k):a.take (i+1)=cL (i+1) k:=by rw [bg h,BV,h3,h2]
theorem I5:Has Tryz.prog 151 tj:=by
 refine ag mixed ak (HasL.cons jR HasL.nil) [0,1,4,5] ((fun a n (_:Nat)=>(fun a _=>⟨Nat,fun i=>⟨[(0,true,.sl true 1 (aa a.1)),(1,true,.int .i64 (a.2+i)),(4,true,.int .i64 0),(5,true,.int .i64 i)],[]⟩,fun i=>i<=a.1.length/\a.1.take i=cL i a.2,fun i=>a.1.length - i⟩) a n)) [] Tryz.func151 (by unfold Tryz.f151; rfl) (fun _=>⟨(),trivial⟩) ?_
 intro a ha;obtain ⟨l,k⟩:=a;obtain ⟨h1,h2⟩:0<=k/\k+l.length<=4611686018427387904:=ha;have e1:=fun i=>@I6 l k i;have e2:=fun i=>@I7 l k i;have e3:=fun i=>@I8 l k i;have e4:cL 0 k=[]:=rfl;simp -implicitDefEqProofs [tj,Con.fn,ae,iw]
 try dsimp only
 try simp +contextual [al,am,aV,aL,aW,List.getElem?_eq_getElem,ba,aN,aT,aY,<- aP,<- aU,aO,aR,aZ,aX,aQ,aS,and_assoc]
 repeat' (first | intro _ | apply And.intro)
 all_goals first | omega | grind [bl]

theorem gv {w:Str} (h:bc w=true):1<=w.length/\w.length<=6:=by
 simp only [bc,Bool.and_eq_true,decide_eq_true_eq] at h;exact ⟨h.1.1,h.1.2⟩

theorem fL {r:RepoD} (h:aF r=true) {i:Nat} (hi:i < r.commits.length):r.commits[i].parents.length<=2/\(∀ p ∈ r.commits[i].parents,0<=p/\p < (i:Int))/\aA r.commits[i].tree=true:=by
 have h1:=((mO r).1 h).2.1 i hi;have hg:r.commits.getD i default=r.commits[i]:=by simp -implicitDefEqProofs [List.getD_eq_getElem?_getD,hi]
 simp only [eM,fx,hg,Bool.and_eq_true,decide_eq_true_eq,List.all_eq_true,List.mem_range] at h1;refine ⟨h1.1.1.1.1,fun p hp=>?_,h1.1.2⟩;obtain ⟨k,hk,rfl⟩:=List.getElem_of_mem hp;have h2:=h1.2 k hk;simp only [inN,Bool.and_eq_true,decide_eq_true_eq,List.getD_eq_getElem?_getD,List.getElem?_eq_getElem hk,Option.getD_some] at h2;omega
theorem fK {r:RepoD} (h:aF r=true):r.commits.length<=16:=((mO r).1 h).1
def jk (r:RepoD) (a:Int):Int:=(r.commits.getD a.toNat default).parents.headD (-1)
theorem HP {r:RepoD} (h:aF r=true) {a:Int} (h0:0<=a) (h1:a < r.commits.length):-1<=jk r a/\jk r a < a:=by
 have hi:a.toNat < r.commits.length:=by omega
 obtain ⟨_,h2,_⟩:=fL h hi;unfold jk;rw [List.getD_eq_getElem?_getD,List.getElem?_eq_getElem hi,Option.getD_some];cases hp:r.commits[a.toNat].parents with
 | nil=>simp; omega
 | cons p l =>
  have:=h2 p (by rw [hp]; simp)
  simp only [List.headD_cons];omega
def sX:Con:=.fn 21 (RepoD × Int) (fun a=>[bF a.1,.int .i64 a.2]) (fun a=>0<=a.2/\a.2 < a.1.commits.length) (fun a=>.int .i64 (jk a.1 a.2)) (fun _=>[])
theorem HO:Has Tryz.prog 134 sX:=by
 refine ag mixed ak HasL.nil [0,1,2,4] ((fun a n (_:Nat)=>(fun _=>an) a n)) [] Tryz.func134 (by unfold Tryz.f134; rfl) (fun _=>⟨(),trivial⟩) ?_
 intro a ha;obtain ⟨r,n⟩:=a;obtain ⟨h1,h2⟩:0<=n/\n < r.commits.length:=ha;have hi:n.toNat < r.commits.length:=by omega
 have e:Option.map bm r.commits[n.toNat]? = some (bm r.commits[n.toNat]):=by simp -implicitDefEqProofs [hi]
 have hf:jk r n=r.commits[n.toNat].parents.headD (-1):=by unfold jk; rw [List.getD_eq_getElem?_getD,List.getElem?_eq_getElem hi]; rfl
 simp -implicitDefEqProofs [sX,Con.fn,ae,e,hf,bm,hi,h1,h2]
 try dsimp only
 intro _;cases hp:r.commits[n.toNat].parents with
 | nil=>simp
 | cons q l=>simp -implicitDefEqProofs [aq]
def nz:Con:=.fn 13 (RepoD × Int) (fun a=>[bF a.1,.int .i64 a.2]) (fun a=>0<=a.2/\a.2 < a.1.commits.length) (fun a=>.sl true 2 (ac (a.1.commits.getD a.2.toNat default).tree)) (fun _=>[])
theorem x5:Has Tryz.prog 71 nz:=by
 refine ag mixed ak HasL.nil [0,1,2,4] ((fun a n (_:Nat)=>(fun _=>an) a n)) [] Tryz.func71 (by unfold Tryz.f71; rfl) (fun _=>⟨(),trivial⟩) ?_
 intro a ha;obtain ⟨r,n⟩:=a;obtain ⟨h1,h2⟩:0<=n/\n < r.commits.length:=ha;have hi:n.toNat < r.commits.length:=by omega
 have e:Option.map bm r.commits[n.toNat]? = some (bm r.commits[n.toNat]):=by simp -implicitDefEqProofs [hi]
 simp -implicitDefEqProofs [nz,Con.fn,ae,e,bm,hi,h1,h2]
 try dsimp only
 exact fun h=>absurd h (by omega)
def aJ (r:RepoD) (a:Int):List FileD:=(r.commits.getD a.toNat default).tree
end Vx
end Go.Proofs.YtonkagjdfpacmaaGreatDoor
set_option linter.unusedVariables false
set_option linter.unusedSimpArgs false
namespace Go.Proofs.YtonkagjdfpacmaaGreatDoor
namespace Vx
open Go.RowKit Go.Lib
end Vx
end Go.Proofs.YtonkagjdfpacmaaGreatDoor
namespace Go.Proofs.YtonkagjdfpacmaaGreatDoor
set_option maxHeartbeats 4000000
namespace Vx
open Go.RowKit
set_option maxRecDepth 8000
def dn (b:UInt8):List D:=[.int .u8 b.toNat]
def cm (s:Str):List (List D):=s.map dn
@[simp] theorem eBytes_length (l:Str):(cm l).length=l.length:=by simp -implicitDefEqProofs [cm]
@[simp] theorem eBytes_get (l:Str) (i:Nat):(cm l)[i]? = l[i]?.map dn:=by simp -implicitDefEqProofs [cm]
theorem Hj (l:Str) (i:Nat):(cm l).take i=cm (l.take i):=by simp -implicitDefEqProofs [cm]
@[simp] theorem eByte_inj (a b:UInt8):(dn a=dn b)=(a=b):=by
 simp only [dn,List.cons.injEq,D.int.injEq,true_and,and_true,eq_iff_iff];constructor
 ·intro h; exact UInt8.toNat_inj.1 (by omega)
 ·rintro rfl; rfl
@[simp] theorem eBytes_inj (a b:Str):(cm a=cm b)=(a=b):=by
 apply propext;constructor
 ·intro h;exact List.map_inj_right (fun x y h=>by simpa using h) |>.1 h
 ·rintro rfl; rfl
@[simp] theorem eBytes_all (l:Str) (f:List D->Bool):(cm l).all f=l.all fun b=>f (dn b):=by simp -implicitDefEqProofs [cm,Function.comp_def]
theorem ip (l:Str):(l.all fun _=>true)=true:=by simp
abbrev fJ (s:Str) (p:Int):Blk:=.box 119 [.sl true 1 (cm s),.int .i64 p]
def pL:Con:=.fn 11 Str (fun s=>[.sl true 1 (cm s)]) (fun _=>True) (fun _=>.ptr 8 0) (fun s=>[(8,fJ (s.take 2000) 0)])
theorem BB:Has Tryz.prog 53 pL:=by
 refine ag mixed ak HasL.nil [0,2] ((fun a n (_:Nat)=>(fun _=>an) a n)) [] Tryz.func53 (by unfold Tryz.f53; rfl) (fun _=>⟨(),trivial⟩) ?_
 intro (s:Str) _;simp -implicitDefEqProofs [pL,Con.fn,ae,Hj];exact fun _=>⟨fun h=>by omega,fun h=>List.take_of_length_le (by omega)⟩
theorem R8 {a b:Int} (h1:0<=a) (h2:a < 4611686018427387904) (h3:0<=b) (h4:b < 4611686018427387904):0<=dD .xor .i64 a b:=by
 unfold dD;simp only [];rw [BitVec.toNat_xor,BitVec.toNat_ofInt,BitVec.toNat_ofInt];have e1:(a % ((2 ^ (IntKind.i64).bits:Nat):Int)).toNat < 2 ^ 62:=by
  have:a % ((2 ^ (IntKind.i64).bits:Nat):Int)=a:=Int.emod_eq_of_lt h1 (by show a < (((2:Nat) ^ 64:Nat):Int); omega)
  rw [this]; omega
 have e2:(b % ((2 ^ (IntKind.i64).bits:Nat):Int)).toNat < 2 ^ 62:=by
  have:b % ((2 ^ (IntKind.i64).bits:Nat):Int)=b:=Int.emod_eq_of_lt h3 (by show b < (((2:Nat) ^ 64:Nat):Int); omega)
  rw [this]; omega
 have e3:=Nat.xor_lt_two_pow e1 e2;rw [lq (by simp only [inR]; omega)]
 omega
def i7:Con:={ A:=(Str × Int) × Int,X:=Int,n:=99,args:=fun a=>[.ptr 0 0,.int .i64 a.2],boxes:=fun a=>[(0,119,[.sl true 1 (cm a.1.1),.int .i64 a.1.2])],pre:=fun a=>a.1.1.length<=2000/\0<=a.1.2/\a.1.2<=1073741824/\a.2<=1073741824,post:=fun a x=>(a.2 < 1->x=0)/\(1<=a.2->0<=x/\x < a.2),res:=fun _ x=>.int .i64 x,fin:=fun a _=>[(0,fJ a.1.1 (a.1.2+1))],nob:=false }
theorem kW:Has Tryz.prog 55 i7:=by
 refine ag mixed ak HasL.nil [0,1,4,5,6] ((fun a n (_:Nat)=>(fun _=>an) a n)) [] Tryz.func55 (by unfold Tryz.f55; rfl) (fun a=>⟨(0:Int),fun _=>rfl,fun h=>⟨Int.le_refl 0,by omega⟩⟩) ?_
 intro a ha;obtain ⟨⟨s,p⟩,n⟩:=a;obtain ⟨h1,h2,h3,h4⟩:s.length<=2000/\0<=p/\p<=1073741824/\n<=1073741824:=ha;simp -implicitDefEqProofs [i7,ae];have e:∀ q:Int,0<=q->q < s.length -> ∃ b:Nat,b < 256/\Option.map dn s[q.toNat]? = some [.int .u8 b]:=fun q a b=>by
  have hq:q.toNat < s.length:=by omega
  exact ⟨s[q.toNat].toNat,s[q.toNat].toNat_lt,by simp -implicitDefEqProofs [List.getElem?_eq_getElem hq,dn]⟩
 refine ⟨by omega,fun _ _=>⟨fun a b=>by omega,fun hn _=>⟨fun _ _=>by omega,fun hs=>⟨by omega,fun _ _ _=>⟨fun hp=>?_,fun hp=>?_⟩⟩⟩⟩⟩
 ·obtain ⟨b,hb,eb⟩:=e p h2 hp;have t1:=Int.tmod_nonneg n (a:=(b:Int)) (by omega)
  have t2:=Int.tmod_lt_of_pos (b:Int) (b:=n) (by omega)
  simp -implicitDefEqProofs [eb];omega
 ·have hl:0 < s.length:=List.length_pos_iff.2 hs;have hL:(0:Int) < (s.length:Int):=by omega
  have t1:=Int.tmod_nonneg (s.length:Int) (a:=p) h2;have t2:=Int.tmod_lt_of_pos p hL;have t3:=Int.tmod_nonneg (s.length:Int) (a:=p * 7+3) (by omega)
  have t4:=Int.tmod_lt_of_pos (p * 7+3) hL;have t5:=Int.tdiv_nonneg h2 (Int.le_of_lt hL);have t6:p.tdiv (s.length:Int)<=p:=by
   have:=Int.natAbs_tdiv_le_natAbs p (s.length:Int);omega
  obtain ⟨b1,hb1,eb1⟩:=e _ t1 t2;obtain ⟨b2,hb2,eb2⟩:=e _ t3 t4;simp -implicitDefEqProofs [eb1,eb2];generalize p.tdiv (s.length:Int)=d at t5 t6 ⊢;generalize p.tmod (s.length:Int)=m1 at t1 t2 ⊢;generalize (p * 7+3).tmod (s.length:Int)=m2 at t3 t4 ⊢;have t7:=Int.tdiv_nonneg (a:=(b1 * 131+b2 * 1117+p * 29+d * 53:Int)) (b:=64) (by omega) (by omega)
  have t8:(b1 * 131+b2 * 1117+p * 29+d * 53:Int).tdiv 64<=b1 * 131+b2 * 1117+p * 29+d * 53:=by
   have:=Int.natAbs_tdiv_le_natAbs (b1 * 131+b2 * 1117+p * 29+d * 53:Int) 64;omega
  have t9:=R8 (a:=(b1 * 131+b2 * 1117+p * 29+d * 53:Int)) (b:=(b1 * 131+b2 * 1117+p * 29+d * 53:Int).tdiv 64) (by omega) (by omega) (by omega) (by omega)
  generalize (b1 * 131+b2 * 1117+p * 29+d * 53:Int).tdiv 64=y at t7 t8 t9 ⊢;generalize dD .xor .i64 (b1 * 131+b2 * 1117+p * 29+d * 53:Int) y=z at t9 ⊢;have t10:=Int.tmod_nonneg n t9;have t11:=Int.tmod_lt_of_pos z (b:=n) (by omega)
  clear e eb1 eb2
  repeat' (first | intro _ | apply And.intro)
  all_goals first | omega | assumption | contradiction
theorem Ay {α:Type} {d:α} {l:List α} (h:l ≠ []):l.headD d ∈ l:=by
 cases l with
 | nil=>exact absurd rfl h
 | cons x r=>simp
def cOf:Con:={ A:=(Str × Int) × List Str,X:=Str,n:=12,args:=fun a=>[.ptr 0 0,.sl true 1 (aa a.2)],boxes:=fun a=>[(0,119,[.sl true 1 (cm a.1.1),.int .i64 a.1.2])],pre:=fun a=>a.1.1.length<=2000/\0<=a.1.2/\a.1.2<=1073741824/\a.2 ≠ []/\a.2.length<=1073741824,post:=fun a x=>a.2 ≠ []->x ∈ a.2,res:=fun _ x=>.str x,fin:=fun a _=>[(0,fJ a.1.1 (a.1.2+1))],nob:=false,kindly:=true }
theorem ol:Has Tryz.prog 107 cOf:=by
 refine ag mixed ak (HasL.cons kW HasL.nil) [0,1,4] ((fun a n (_:Nat)=>(fun _=>an) a n)) [] Tryz.func107 (by unfold Tryz.f107; rfl) (fun a=>⟨a.2.headD [],fun h=>Ay h⟩) ?_
 intro a ha;obtain ⟨⟨s,p⟩,l⟩:=a;obtain ⟨h1,h2,h3,h4,h5⟩:s.length<=2000/\0<=p/\p<=1073741824/\l ≠ []/\l.length<=1073741824:=ha;have hl:0 < l.length:=List.length_pos_iff.2 h4;simp -implicitDefEqProofs [cOf,i7,ae];refine fun _=>⟨s,p,⟨rfl,rfl⟩,⟨h1,h2,h3,by omega⟩,fun y _ hy2=>?_⟩
 obtain ⟨k1,k2⟩:=hy2 (by omega)
 have hk:y.toNat < l.length:=by omega
 have e:Option.map al l[y.toNat]? = some (al l[y.toNat]):=by simp -implicitDefEqProofs [List.getElem?_eq_getElem hk]
 simp -implicitDefEqProofs [e,al,k1,k2]
def ur:Con:={ A:=(Str × Int) × List Int,X:=Int,n:=12,args:=fun a=>[.ptr 0 0,.sl true 1 (aj a.2)],boxes:=fun a=>[(0,119,[.sl true 1 (cm a.1.1),.int .i64 a.1.2])],pre:=fun a=>a.1.1.length<=2000/\0<=a.1.2/\a.1.2<=1073741824/\a.2 ≠ []/\a.2.length<=1073741824,post:=fun a x=>a.2 ≠ []->x ∈ a.2,res:=fun _ x=>.int .i64 x,fin:=fun a _=>[(0,fJ a.1.1 (a.1.2+1))],nob:=false,kindly:=true }
theorem one_has:Has Tryz.prog 165 ur:=by
 refine ag mixed ak (HasL.cons kW HasL.nil) [0,1,4] ((fun a n (_:Nat)=>(fun _=>an) a n)) [] Tryz.func165 (by unfold Tryz.f165; rfl) (fun a=>⟨a.2.headD 0,fun h=>Ay h⟩) ?_
 intro a ha;obtain ⟨⟨s,p⟩,l⟩:=a;obtain ⟨h1,h2,h3,h4,h5⟩:s.length<=2000/\0<=p/\p<=1073741824/\l ≠ []/\l.length<=1073741824:=ha;have hl:0 < l.length:=List.length_pos_iff.2 h4;simp -implicitDefEqProofs [ur,i7,ae];refine fun _=>⟨s,p,⟨rfl,rfl⟩,⟨h1,h2,h3,by omega⟩,fun y _ hy2=>?_⟩
 obtain ⟨k1,k2⟩:=hy2 (by omega)
 have hk:y.toNat < l.length:=by omega
 have e:Option.map aq l[y.toNat]? = some (aq l[y.toNat]):=by simp -implicitDefEqProofs [List.getElem?_eq_getElem hk]
 simp -implicitDefEqProofs [e,aq,k1,k2]
def D4:List (Nat × TI):=(153,⟨true,[.oth (.pointer none),.sl 5 1],32,[(151,0),(48,1)],0⟩) :: ae
--TAB D4
--TAB D4
structure PlainR (r:RepoD):Prop where
 com:∀ c ∈ r.commits,(∀ b ∈ c.who,32 < b.toNat)/\c.parents.length<=2/\(∀ p ∈ c.parents,0<=p/\p < 100)/\C9 c.tree/\c.tree.length<=8 /\ ∀ f ∈ c.tree,f.text.length<=10
 head:∀ h ∈ r.heads,(∀ b ∈ h.name,32 < b.toNat)/\0<=h.at_/\h.at_ < 100
 nc:r.commits.length<=16
 nh:r.heads.length<=5
theorem iK {s:Str} (h:bc s=true):∀ b ∈ s,32 < b.toNat:=by
 intro b hb;simp only [bc,Bool.and_eq_true,List.all_eq_true] at h;have:=h.2 b hb;simp only [ke,Bool.or_eq_true,Bool.and_eq_true,decide_eq_true_eq] at this;omega
def kE (l:List FileD) (k:Int):Int:=k+l.length+dO l
def bU (t:List FileD) (k:Int):List FileD:=(List.range t.length).map fun i:Nat=>⟨cH (kE (t.take i) k),cL (t.getD i default).text.length (kE (t.take i) k+1)⟩
theorem fq (t:List FileD) (k:Int):(bU t k).length=t.length:=by simp [bU]
def mFA (t:List FileD) (k:Int) (i:Nat):List FileD:=(bU t k).take i++t.drop i
theorem L7 {t:List FileD} {k:Int} {i:Nat} (h:i<=t.length):(mFA t k i).length=t.length:=by simp [mFA,fq]; omega
theorem L9 (t:List FileD) (k:Int):mFA t k 0=t:=by simp [mFA]
theorem L5 {t:List FileD} {k:Int} {i:Nat} (h:t.length<=i):mFA t k i=bU t k:=by
 unfold mFA;rw [List.take_of_length_le (by rw [fq]; exact h),List.drop_eq_nil_of_le h,List.append_nil]
theorem L6 {t:List FileD} {k:Int} {i:Nat} (h:i < t.length):(mFA t k i)[i]? = some t[i]:=by
 unfold mFA;rw [List.getElem?_append_right (by simp [fq]; omega),List.length_take,fq,Nat.min_eq_left (by omega),Nat.sub_self,List.drop_eq_getElem_cons h]
 rfl
theorem L8 {t:List FileD} {k:Int} {i:Nat} (h:i < t.length):(mFA t k i).set i ⟨cH (kE (t.take i) k),cL t[i].text.length (kE (t.take i) k+1)⟩=mFA t k (i+1):=by
 unfold mFA;have hl:i < (bU t k).length:=by rw [fq]; exact h
 have hx:(bU t k)[i]=⟨cH (kE (t.take i) k),cL t[i].text.length (kE (t.take i) k+1)⟩:=by simp [bU,h]
 rw [List.set_append_right _ _ (by simp [fq]; omega),List.length_take,fq,Nat.min_eq_left (by omega),Nat.sub_self,List.drop_eq_getElem_cons h,List.set_cons_zero,List.take_succ_eq_append_getElem hl,hx]
 simp
theorem Be {t:List FileD} {k:Int} {i:Nat} (h:i < t.length):kE (t.take (i+1)) k=kE (t.take i) k+1+t[i].text.length:=by
 unfold kE;rw [M1 _ _ h];simp; omega
theorem wr {t:List FileD} {k:Int} (i:Nat):k<=kE (t.take i) k/\kE (t.take i) k<=kE t k:=by
 have h1:dO (t.take i)<=dO t:=by
  have:dO t=dO (t.take i)+dO (t.drop i):=by
   unfold dO;rw [<- List.sum_append,<- List.map_append,List.take_append_drop]
  omega
 have h2:(t.take i).length<=t.length:=by simp; omega
 unfold kE;omega
theorem Bf (k:Int):kE [] k=k:=by simp [kE,dO]
def ue:Con:={ A:=List FileD × Int,X:=Unit,n:=28,args:=fun a=>[.own 0 2 (ac a.1),.int .i64 a.2],boxes:=fun _=>[],pre:=fun a=>0<=a.2/\kE a.1 a.2<=1152921504606846976,post:=fun _ _=>True,res:=fun a _=>.int .i64 (kE a.1 a.2),fin:=fun a _=>[(0,.own 99 2 true (ac (bU a.1 a.2)))],owns:=fun a=>[(0,99,2,ac a.1)],lends:=[0],mv:=true,sube:=99 }
theorem MB:Has Tryz.prog 96 ue:=by
 refine ag mixed ak (HasL.cons jR (HasL.cons MH HasL.nil)) [0,1,4,5] ((fun a n (_:Nat)=>(fun a _=>⟨Nat,fun i=>⟨[(0,true,.own 0 2 (ac (mFA a.1 a.2 i))),(1,true,.int .i64 (kE (a.1.take i) a.2)),(4,true,.int .i64 0),(5,true,.int .i64 i)],[(0,.own 99 2 true (ac (mFA a.1 a.2 i)))]⟩,fun i=>i<=a.1.length,fun i=>a.1.length - i⟩) a n)) [] Tryz.func96 (by unfold Tryz.f96; rfl) (fun _=>⟨(),trivial⟩) ?_
 intro a ha;obtain ⟨t,k⟩:=a;obtain ⟨q1,q2⟩:0<=k/\kE t k<=1152921504606846976:=ha;have e1:=fun i=>@L7 t k i;have e2:=fun i=>@L8 t k i;have e3:=L9 t k;have e4:=fun i=>@L5 t k i;have e5:=fun i=>@L6 t k i;have e6:=fun i=>@Be t k i;have e7:=fun i=>@wr t k i;have e8:=Bf k;simp -implicitDefEqProofs [ue,Con.fn,ae,iw,uh,e3,e8]
 try dsimp only
 refine ⟨⟨0,by simp [e3,e8]⟩,fun i hi _=>⟨fun hlt=>?_,fun hge=>?_⟩⟩
 ·have hlt':i < t.length:=by rw [e1 i hi] at hlt; exact hlt
  have g1:=e5 i hlt';have g2:∀ r,((ac (mFA t k i)).set i r)[i]? = some r:=fun r=>by rw [List.getElem?_set_self (by rw [eFiles_length]; exact hlt)]
  have g3:=e7 i;have g4:=e6 i hlt';have g5:=e7 (i+1);have g6:(ac (mFA t k i)).set i [D.str (cH (kE (t.take i) k)),D.sl 9 1 (aa (cL t[i].text.length (kE (t.take i) k+1)))]=ac (mFA t k (i+1)):=by rw [<- e2 i hlt',aN]
  have g7:=e1 (i+1) (by omega)
  have g8:(mFA t k i)[i]=t[i]:=by rw [List.getElem?_eq_getElem hlt] at g1; exact Option.some.inj g1
  simp [g1,g2,am,D.asRows,e1 i hi,hlt',hlt,and_assoc];rw [g8];exact ⟨by omega,by omega,by omega,fun _ _=>⟨by omega,by omega,by omega,by omega,fun _ _=>⟨i+1,g6.symm,by omega,by omega,g6,by omega,by omega⟩⟩⟩
 ·rw [e1 i hi] at hge;rw [e4 i hge,List.take_of_length_le hge];exact ⟨rfl,rfl⟩
theorem M0 {B:Nat} (t:List FileD) (h:∀ f ∈ t,f.text.length<=B):dO t<=B * t.length:=by
 induction t with
 | nil=>simp [dO]
 | cons f r ih =>
  have h1:=h f (by simp)
  have h2:=ih (fun g hg=>h g (by simp [hg]))
  simp [dO,Nat.mul_add] at h2 ⊢;omega
theorem vM {l:List Str} {x:List D} {d:D} (h:x ∈ aa l) (h':d ∈ x):∃ s,d=D.str s:=by
 simp only [aa,List.mem_map] at h;obtain ⟨s,_,rfl⟩:=h;simp only [al,List.mem_singleton] at h';exact ⟨s,h'⟩
def lH:Con:=.fn 6 (List Str) (fun a=>[.sl true 1 (aa a)]) (fun a=>a.length<=1048576) (fun a=>.own 8 1 (aa a)) (fun a=>dk 8 a)
theorem qd:Has Tryz.prog 167 lH:=by
 refine ag mixed ak HasL.nil [0,2] ((fun a n (_:Nat)=>(fun _=>an) a n)) [] Tryz.func167 (by unfold Tryz.f167; rfl) (fun _=>⟨(),trivial⟩) ?_
 intro (a:List Str) ha;replace ha:a.length<=1048576:=ha;simp -implicitDefEqProofs [lH,Con.fn,ae]
 try dsimp only
 try simp +contextual [al,am,aV,aL,aW,List.getElem?_eq_getElem,ba,aN,aT,aY,<- aP,<- aU,aO,aR,aZ,aX,aQ,aS,and_assoc]
 repeat' (first | intro _ | apply And.intro)
 all_goals first | omega | grind [bl,vM]
def iu:Con:=.fn 23 (List FileD) (fun a=>[.sl true 2 (ac a)]) (fun a=>a.length<=1048576 /\ ∀ f ∈ a,f.text.length<=1048576) (fun a=>.own 8 2 (ac a)) (fun a=>fF 8 a)
theorem jJ:Has Tryz.prog 123 iu:=by
 refine ag mixed ak (HasL.cons qd HasL.nil) [0,2,3,5,6,7,8] ((fun a n (_:Nat)=>(fun a _=>⟨Nat,fun i=>⟨[(2,true,.nil),(3,true,.own 9 2 (ac (a.take i))),(6,true,.sl true 2 (ac a)),(7,true,.int .i64 a.length),(8,true,.int .i64 i)],fF 9 (a.take i)⟩,fun i=>i<=a.length,fun i=>a.length - i⟩) a n)) [19] Tryz.func123 (by unfold Tryz.f123; rfl) (fun _=>⟨(),trivial⟩) ?_
 intro (a:List FileD) ha;obtain ⟨h1,h2⟩:a.length<=1048576 /\ ∀ f ∈ a,f.text.length<=1048576:=ha;have h3:∀ i (h:i < a.length),a[i].text.length<=1048576:=fun i h=>h2 _ (List.getElem_mem h);simp -implicitDefEqProofs [iu,Con.fn,ae,lH]
 try dsimp only
 try simp +contextual [al,am,aV,aL,aW,List.getElem?_eq_getElem,ba,aN,aT,aY,<- aP,<- aU,aO,aR,aZ,aX,aQ,aS,and_assoc,<- FileD.eq_iff]
 repeat' (first | intro _ | apply And.intro)
 all_goals first | omega | grind [bl,List.take_of_length_le,List.take_succ_eq_append_getElem]
def jE:Con:=.fn 29 (List FileD) (fun a=>[.sl true 2 (ac a)]) (fun a=>a.length<=1048576 /\ ∀ f ∈ a,f.text.length<=1048576) (fun a=>.own 8 2 (ac a)) (fun a=>fF 8 a)
theorem mp:Has Tryz.prog 139 jE:=by
 refine ag mixed ak HasL.nil [0,2,3,4] ((fun a n (_:Nat)=>(fun a _=>⟨Nat,fun i=>⟨[(0,true,.sl true 2 (ac a)),(2,true,.nil),(3,true,.own 9 2 (ac (a.take i))),(4,true,.int .i64 i)],fF 9 (a.take i)⟩,fun i=>i<=a.length,fun i=>a.length - i⟩) a n)) [26] Tryz.func139 (by unfold Tryz.f139; rfl) (fun _=>⟨(),trivial⟩) ?_
 intro (a:List FileD) ha;obtain ⟨h1,h2⟩:a.length<=1048576 /\ ∀ f ∈ a,f.text.length<=1048576:=ha;have h3:∀ i (h:i < a.length),a[i].text.length<=1048576:=fun i h=>h2 _ (List.getElem_mem h);simp -implicitDefEqProofs [jE,Con.fn,ae]
 try dsimp only
 try simp +contextual [al,am,aV,aL,aW,List.getElem?_eq_getElem,ba,aN,aT,aY,<- aP,<- aU,aO,aR,aZ,aX,aQ,aS,and_assoc,<- FileD.eq_iff]
 repeat' (first | intro _ | apply And.intro)
 all_goals first | omega | grind [bl,vM,List.take_of_length_le,List.take_succ_eq_append_getElem]
def aI (p:FileD->Bool) (t:List FileD):List FileD:=t.filter p
theorem vP {p:FileD->Bool} {t:List FileD} {i:Nat} (h:i < t.length) (hp:p t[i]=true):aI p (t.take (i+1))=aI p (t.take i)++[t[i]]:=by
 unfold aI;rw [bg h,List.filter_append];simp [List.filter_cons,hp]
theorem vQ {p:FileD->Bool} {t:List FileD} {i:Nat} (h:i < t.length) (hp:p t[i]=false):aI p (t.take (i+1))=aI p (t.take i):=by
 unfold aI;rw [bg h,List.filter_append];simp [List.filter_cons,hp]
theorem Af (p:FileD->Bool) (t:List FileD) (i:Nat):(aI p (t.take i)).length<=i:=by
 have:=List.length_filter_le p (t.take i);unfold aI;simp at this; omega
theorem Ag (p:FileD->Bool):aI p []=[]:=rfl
def eK (p:FileD->Bool) (t:List FileD) (i:Nat):List (List D):=(t.take i).map (fun f=>if p f then [.str f.path,.junk] else am f)++ac (t.drop i)
theorem Iw (p:FileD->Bool) (t:List FileD) (i:Nat):(eK p t i).length=t.length:=by simp [eK]; omega
theorem Iy (p:FileD->Bool) (t:List FileD):eK p t 0=ac t:=by simp [eK]
theorem Iu {p:FileD->Bool} {t:List FileD} {i:Nat} (h:i < t.length):(eK p t i)[i]? = some (am t[i]):=by
 unfold eK;rw [List.getElem?_append_right (by simp; omega),List.length_map,List.length_take,Nat.min_eq_left (by omega),Nat.sub_self,eFiles_get,List.drop_eq_getElem_cons h]
 rfl
theorem Ix {p:FileD->Bool} {t:List FileD} {i:Nat} (h:i < t.length) (hp:p t[i]=false):eK p t (i+1)=eK p t i:=by
 unfold eK;rw [bg h,List.map_append,List.drop_eq_getElem_cons h];simp only [List.map_cons,List.map_nil,hp,Bool.false_eq_true,if_false,ac,List.append_assoc,List.cons_append,List.nil_append]
theorem Iv {p:FileD->Bool} {t:List FileD} {i:Nat} (h:i < t.length) (hp:p t[i]=true):(eK p t i).set i [.str t[i].path,.junk]=eK p t (i+1):=by
 unfold eK;rw [bg h,List.map_append];rw [List.set_append_right _ _ (by simp; omega),List.length_map,List.length_take,Nat.min_eq_left (by omega),Nat.sub_self,List.drop_eq_getElem_cons h]
 simp only [List.map_cons,List.map_nil,hp,if_true,ac,List.append_assoc,List.cons_append,List.nil_append,List.set_cons_zero]
def cI (f:FileD) (acc:List FileD × Bool) (g:FileD):List FileD × Bool :=
 if acc.2=false/\Go.Op.bytesLess g.path f.path=false then (if g.path=f.path then (acc.1++[f],true) else (acc.1++[f]++[g],true))
 else (if g.path=f.path then acc else (acc.1++[g],acc.2))
def bM (f:FileD) (l:List FileD):List FileD × Bool:=l.foldl (cI f) ([],false)
def fP (t:List FileD) (f:FileD):List FileD:=if (bM f t).2 then (bM f t).1 else (bM f t).1++[f]
theorem mT {f:FileD} {t:List FileD} {i:Nat} (h:i < t.length):bM f (t.take (i+1))=cI f (bM f (t.take i)) t[i]:=by
 unfold bM;rw [bg h,List.foldl_append]; rfl
theorem PH (f:FileD) (acc:List FileD × Bool) (g:FileD):(cI f acc g).1.length+acc.2.toNat<=acc.1.length+(cI f acc g).2.toNat+1:=by
 unfold cI;split
 ·rename_i h;rw [h.1];split <;> simp <;> omega
 ·split <;> simp <;> omega
theorem DL (f:FileD) (t:List FileD):(bM f t).1.length<=t.length+(bM f t).2.toNat:=by
 have:∀ (t:List FileD) (acc:List FileD × Bool),(t.foldl (cI f) acc).1.length+acc.2.toNat<=acc.1.length+t.length+(t.foldl (cI f) acc).2.toNat:=by
  intro t
  induction t with
  | nil=>intro acc; simp
  | cons g r ih =>
   intro acc;have h1:=ih (cI f acc g);have h2:=PH f acc g;simp only [List.foldl_cons,List.length_cons];omega
 have:=this t ([],false)
 simpa [bM] using this
theorem PG (t:List FileD) (f:FileD):(fP t f).length<=t.length+1:=by
 have:=DL f t;unfold fP;split
 ·rename_i h; rw [h] at this; simpa using this
 ·rename_i h;have h:(bM f t).2=false:=by simpa using h
  rw [h] at this; simp at this ⊢; omega
def pO:Con:=.fn 65 (List FileD × FileD) (fun a=>[.sl true 2 (ac a.1),.agg [.str a.2.path,.sl true 1 (aa a.2.text)]]) (fun a=>a.1.length<=1048576/\a.2.text.length<=1048576) (fun a=>.sl false 2 (ac (fP a.1 a.2))) (fun _=>[])
theorem BE:Has Tryz.prog 138 pO:=by
 refine ag mixed ak HasL.nil [0,1,3,4,5,6,7] ((fun a n (_:Nat)=>(fun a _=>⟨Nat,fun i=>⟨[(0,true,.sl true 2 (ac a.1)),(3,true,.ptr 10 0),(4,true,.nil),(5,true,.own 9 2 (ac (bM a.2 (a.1.take i)).1)),(6,true,.bool (bM a.2 (a.1.take i)).2),(7,true,.int .i64 i)],[(10,.box 99 [.str a.2.path,.sl true 1 (aa a.2.text)]),(9,.own 99 2 false (ac (bM a.2 (a.1.take i)).1))]⟩,fun i=>i<=a.1.length,fun i=>a.1.length - i⟩) a n)) [35,62] Tryz.func138 (by unfold Tryz.f138; rfl) (fun _=>⟨(),trivial⟩) ?_
 intro a ha;obtain ⟨t,f⟩:=a;obtain ⟨q1,q2⟩:t.length<=1048576/\f.text.length<=1048576:=ha;have a0:bM f []=([],false):=rfl;have a1:∀ i (h:i < t.length),(bM f (t.take i)).2=true -> ¬ t[i].path=f.path->bM f (t.take (i+1))=((bM f (t.take i)).1++[t[i]],true):=fun i h h1 h2=>by rw [mT h]; simp [cI,h1,h2]
 have a2:∀ i (h:i < t.length),(bM f (t.take i)).2=true->t[i].path=f.path->bM f (t.take (i+1))=((bM f (t.take i)).1,true):=fun i h h1 h2=>by rw [mT h]; unfold cI; rw [if_neg (by simp [h1]),if_pos h2]; exact Prod.ext rfl h1
 have a3:∀ i (h:i < t.length),(bM f (t.take i)).2=false->Go.Op.bytesLess t[i].path f.path=false -> ¬ t[i].path=f.path->bM f (t.take (i+1))=((bM f (t.take i)).1++[f]++[t[i]],true):=fun i h h1 h3 h2=>by rw [mT h]; simp [cI,h1,h2,h3]
 have a4:∀ i (h:i < t.length),(bM f (t.take i)).2=false->Go.Op.bytesLess t[i].path f.path=false->t[i].path=f.path->bM f (t.take (i+1))=((bM f (t.take i)).1++[f],true):=fun i h h1 h3 h2=>by rw [mT h]; rw [h2] at h3; simp [cI,h1,h2,h3]
 have a5:∀ i (h:i < t.length),(bM f (t.take i)).2=false->Go.Op.bytesLess t[i].path f.path=true -> ¬ t[i].path=f.path->bM f (t.take (i+1))=((bM f (t.take i)).1++[t[i]],false):=fun i h h1 h3 h2=>by rw [mT h]; simp [cI,h1,h2,h3]
 have a6:∀ i (h:i < t.length),(bM f (t.take i)).2=false->Go.Op.bytesLess t[i].path f.path=true->t[i].path=f.path->bM f (t.take (i+1))=((bM f (t.take i)).1,false):=fun i h h1 h3 h2=>by rw [mT h]; unfold cI; rw [if_neg (by simp [h3]),if_pos h2]; exact Prod.ext rfl h1
 have a7:∀ i,(bM f (t.take i)).1.length<=1048577:=fun i=>by
  have h1:=DL f (t.take i);have h2:=Bool.toNat_le (bM f (t.take i)).2;have h3:(t.take i).length<=t.length:=by simp; omega
  omega
 have a8:(bM f t).2=true->fP t f=(bM f t).1:=fun h=>by simp [fP,h]
 have a9:(bM f t).2=false->fP t f=(bM f t).1++[f]:=fun h=>by simp [fP,h]
 simp -implicitDefEqProofs [pO,Con.fn,ae]
 try dsimp only
 have b1:∀ (X:List FileD) (g:FileD),ac X++[[D.str f.path,D.sl 9 1 (aa f.text)],[D.str g.path,D.sl 9 1 (aa g.text)]]=ac (X++[f]++[g]):=fun X g=>by simp [ac,am]
 refine ⟨⟨0,by simp [a0]⟩,?_⟩
 try simp +contextual [al,am,aV,aL,aW,List.getElem?_eq_getElem,ba,aN,aT,aY,<- aP,<- aU,aO,aR,aZ,aX,aQ,aS,and_assoc,b1,<- FileD.eq_iff]
 repeat' (first | intro _ | apply And.intro)
 all_goals first | omega | grind [bl,vM,List.take_of_length_le]
theorem jg (b:List Str) (x:Str) (R:List (List D)):(aa b=[D.str x] :: R) = ∃ t,b=x :: t/\aa t=R:=by
 apply propext;constructor
 ·intro h;cases b with
  | nil=>cases h
  | cons y t =>
   simp only [aa,List.map_cons,List.cons.injEq,al,D.str.injEq,and_true] at h;exact ⟨t,by rw [h.1],h.2⟩
 ·rintro ⟨t,rfl,rfl⟩; rfl
theorem Ho (b:List Int) (x:Int) (R:List (List D)):(aj b=[D.int .i64 x] :: R) = ∃ t,b=x :: t/\aj t=R:=by
 apply propext;constructor
 ·intro h;cases b with
  | nil=>cases h
  | cons y t =>
   simp only [aj,List.map_cons,List.cons.injEq,aq,D.int.injEq,true_and,and_true] at h;exact ⟨t,by rw [h.1],h.2⟩
 ·rintro ⟨t,rfl,rfl⟩; rfl
def ua:Con:={ A:=Str × Int,X:=Str,n:=6,args:=fun _=>[.ptr 0 0],boxes:=fun a=>[(0,119,[.sl true 1 (cm a.1),.int .i64 a.2])],pre:=fun a=>a.1.length<=2000/\0<=a.2/\a.2<=1073741824,post:=fun _ x=>x.length<=7,res:=fun _ x=>.str x,fin:=fun a _=>[(0,fJ a.1 (a.2+1))],nob:=false }
theorem LN:Has Tryz.prog 166 ua:=by
 refine ag mixed ak (HasL.cons ol HasL.nil) [0,2] ((fun a n (_:Nat)=>(fun _=>an) a n)) [] Tryz.func166 (by unfold Tryz.f166; rfl) (fun _=>⟨([]:Str),Nat.zero_le 7⟩) ?_
 intro a ha;obtain ⟨s,p⟩:=a;obtain ⟨h1,h2,h3⟩:s.length<=2000/\0<=p/\p<=1073741824:=ha;simp -implicitDefEqProofs [ua,cOf,ae,jg,clash,kd,dn,ip];refine ⟨s,p,⟨rfl,rfl⟩,⟨h1,h2,h3⟩,?_⟩;simp
def uw:Con:={ A:=Str × Int,X:=Str,n:=6,args:=fun _=>[.ptr 0 0],boxes:=fun a=>[(0,119,[.sl true 1 (cm a.1),.int .i64 a.2])],pre:=fun a=>a.1.length<=2000/\0<=a.2/\a.2<=1073741824,post:=fun _ x=>x.length<=5,res:=fun _ x=>.str x,fin:=fun a _=>[(0,fJ a.1 (a.2+1))],nob:=false }
theorem N5:Has Tryz.prog 121 uw:=by
 refine ag mixed ak (HasL.cons ol HasL.nil) [0,2] ((fun a n (_:Nat)=>(fun _=>an) a n)) [] Tryz.func121 (by unfold Tryz.f121; rfl) (fun _=>⟨([]:Str),Nat.zero_le 5⟩) ?_
 intro a ha;obtain ⟨s,p⟩:=a;obtain ⟨h1,h2,h3⟩:s.length<=2000/\0<=p/\p<=1073741824:=ha;simp -implicitDefEqProofs [uw,cOf,ae,jg,clash,kd,dn,ip];refine ⟨s,p,⟨rfl,rfl⟩,⟨h1,h2,h3⟩,?_⟩;simp
def uQ:Con:={ A:=Str × Int,X:=List Str × Int,n:=19,args:=fun _=>[.ptr 0 0],boxes:=fun a=>[(0,119,[.sl true 1 (cm a.1),.int .i64 a.2])],pre:=fun a=>a.1.length<=2000/\0<=a.2/\a.2<=1073741800,post:=fun a x=>x.1.length<=8/\(∀ s ∈ x.1,s.length<=7)/\a.2<=x.2/\x.2<=a.2+9,res:=fun _ x=>.own 8 1 (aa x.1),fin:=fun a x=>[(0,fJ a.1 x.2),(8,.own 9 1 true (aa x.1))],nob:=false }
theorem QM:Has Tryz.prog 122 uQ:=by
 refine ag mixed ak (HasL.cons one_has (HasL.cons LN HasL.nil)) [0,2,3,4] ((fun a n (_:Nat)=>(fun a _=>⟨List Str × Int × Nat,fun t=>⟨[(0,true,.ptr 0 0),(2,true,.nil),(3,true,.own 9 1 (aa t.1)),(4,true,.int .i64 t.2.2)],[(0,fJ a.1 t.2.1),(9,.own 9 1 true (aa t.1))]⟩,fun t=>t.1.length+t.2.2<=8/\(∀ s ∈ t.1,s.length<=7)/\a.2<=t.2.1/\t.2.1<=a.2+1+t.1.length,fun t=>t.2.2⟩) a n)) [] Tryz.func122 (by unfold Tryz.f122; rfl) (fun a=>⟨(([]:List Str),a.2),Nat.zero_le 8,(by simp),Int.le_refl _,by omega⟩) ?_
 intro a ha;obtain ⟨s,p⟩:=a;obtain ⟨h1,h2,h3⟩:s.length<=2000/\0<=p/\p<=1073741800:=ha;simp -implicitDefEqProofs [uQ,ur,ua,ae,Ho,clash,kd,dn,ip];refine ⟨s,p,⟨rfl,rfl⟩,⟨h1,by omega,by omega⟩,?_⟩
 refine ⟨⟨⟨[],p+1,0,by simp; omega⟩,?_⟩,⟨⟨[],p+1,1,by simp; omega⟩,?_⟩,⟨⟨[],p+1,3,by simp; omega⟩,?_⟩,⟨⟨[],p+1,5,by simp; omega⟩,?_⟩,⟨[],p+1,8,by simp; omega⟩,?_⟩
 all_goals
  intro a q n g1 g2 g3 g4;refine ⟨fun hn=>⟨s,q,⟨rfl,rfl⟩,⟨h1,by omega,by omega⟩,fun y hy=>⟨by omega,by omega,fun _ _=>⟨a++[y],q+1,n - 1,⟨⟨(aQ a y).symm,by omega⟩,⟨rfl,rfl⟩,aQ a y⟩,⟨by simp; omega,fun x hx=>?_,by omega,by simp; omega⟩,by omega⟩⟩⟩,fun hn=>⟨a,q,⟨by omega,g2,by omega,by omega⟩,rfl,rfl,rfl⟩⟩
  rcases List.mem_append.1 hx with hx | hx
  ·exact g2 x hx
  ·simp at hx; subst hx; exact hy
def il (t:List FileD) (f:FileD):List FileD × Bool:=if bi t then (if bi (fP t f) then (fP t f,true) else (t,false)) else ([],false)
def uX:Con:=.fn 20 (List FileD × FileD) (fun a=>[.sl true 2 (ac a.1),.agg [.str a.2.path,.sl true 1 (aa a.2.text)]]) (fun a=>(a.1.length<=1048575 /\ ∀ f ∈ a.1,f.text.length<=1048576)/\a.2.text.length<=1048576) (fun a=>.tup [.sl false 2 (ac (il a.1 a.2).1),.bool (il a.1 a.2).2]) (fun _=>[])
theorem Q0:Has Tryz.prog 85 uX:=by
 refine ag mixed ak (HasL.cons nW (HasL.cons mp (HasL.cons BE HasL.nil))) [0,1,3,4,5,6] ((fun a n (_:Nat)=>(fun _=>an) a n)) [] Tryz.func85 (by unfold Tryz.f85; rfl) (fun _=>⟨(),trivial⟩) ?_
 intro a ha;obtain ⟨t,f⟩:=a;obtain ⟨⟨q1,q2⟩,q3⟩:(t.length<=1048575 /\ ∀ f ∈ t,f.text.length<=1048576)/\f.text.length<=1048576:=ha;simp -implicitDefEqProofs [uX,Con.fn,ae,kr,jE,pO,il]
 try dsimp only
 try simp +contextual -implicitDefEqProofs [al,am,aV,aL,aW,List.getElem?_eq_getElem,ba,aN,aT,aY,<- aP,<- aU,aO,aR,aZ,aX,aQ,aS,and_assoc]
 repeat' (first | intro _ | apply And.intro)
 all_goals first | omega | grind [bl,il]
theorem Bd (t:List FileD) (k j:Int):kE (bU t k) j=kE t j:=by
 have:dO (bU t k)=dO t:=by
  unfold dO bU;rw [List.map_map];have:((fun f:FileD=>f.text.length) ∘ fun i:Nat=>(⟨cH (kE (t.take i) k),cL (t.getD i default).text.length (kE (t.take i) k+1)⟩:FileD))=fun i=>(t.getD i default).text.length:=by
   funext i; simp [od]
  rw [this]
  congr 1
  apply List.ext_getElem (by simp)
  intro i h1 h2;simp at h1;simp [h1]
 unfold kE;rw [this,fq]
theorem MD (t:List FileD) (k:Int) (i:Nat) (h:i<=t.length):bU (t.take i) k=(bU t k).take i:=by
 unfold bU;rw [<- List.map_take,List.take_range,List.length_take,Nat.min_comm];rw [Nat.min_comm];apply List.map_congr_left;intro j hj;have hj:j < i:=by simp at hj; omega
 rw [List.take_take,Nat.min_eq_left (by omega)]
 simp [List.getElem?_take,hj]
theorem MC (t:List FileD) (k:Int):bU (bU t k) k=bU t k:=by
 show (List.range (bU t k).length).map _=(List.range t.length).map _
 rw [fq];apply List.map_congr_left;intro i hi;have hi:i < t.length:=by simpa using hi
 rw [<- MD t k i (by omega),Bd]
 have:((bU t k).getD i default).text.length=(t.getD i default).text.length:=by simp [bU,hi,od]
 rw [this]
def jN (t:List FileD) (k:Int):Int:=if t=bU t k then kE t k else -1
def td:Con:=.fn 32 (List FileD × Int) (fun a=>[.sl true 2 (ac a.1),.int .i64 a.2]) (fun a=>0<=a.2/\kE a.1 a.2<=1152921504606846976) (fun a=>.int .i64 (jN a.1 a.2)) (fun _=>[])
theorem AB {t:List FileD} {k:Int} {i:Nat} (h:i < t.length):(bU t k)[i]'(by rw [fq]; exact h)=⟨cH (kE (t.take i) k),cL t[i].text.length (kE (t.take i) k+1)⟩:=by simp [bU,h]
theorem IU {t:List FileD} {k:Int} {i:Nat} (h:i < t.length) (h2:t[i].path ≠ cH (kE (t.take i) k) \/ t[i].text ≠ cL t[i].text.length (kE (t.take i) k+1)):jN t k = -1:=by
 unfold jN;rw [if_neg];intro h3;have:t[i]? = (bU t k)[i]?:=by rw [<- h3]
 rw [List.getElem?_eq_getElem h,List.getElem?_eq_getElem (by rw [fq]; exact h),AB h] at this
 have:=Option.some.inj this;rcases h2 with h2 | h2
 ·exact h2 (congrArg FileD.path this)
 ·exact h2 (congrArg FileD.text this)
theorem IV {t:List FileD} {k:Int} {i:Nat} (h:i < t.length) (h1:t.take i=(bU t k).take i) (h2:t[i].path=cH (kE (t.take i) k)) (h3:t[i].text=cL t[i].text.length (kE (t.take i) k+1)):t.take (i+1)=(bU t k).take (i+1):=by rw [bg h,bg (by rw [fq]; exact h),AB h,<- h1,<- h2,<- h3]
theorem IR {t:List FileD} {k:Int} {i:Nat} (h:t.length<=i) (h1:t.take i=(bU t k).take i):jN t k=kE (t.take i) k:=by
 rw [List.take_of_length_le h,List.take_of_length_le (by rw [fq]; exact h)] at h1
 unfold jN;rw [if_pos h1,List.take_of_length_le h]
theorem IW:Has Tryz.prog 98 td:=by
 refine ag mixed ak (HasL.cons jR (HasL.cons I5 HasL.nil)) [0,1,4,5] ((fun a n (_:Nat)=>(fun a _=>⟨Nat,fun i=>⟨[(0,true,.sl true 2 (ac a.1)),(1,true,.int .i64 (kE (a.1.take i) a.2)),(4,true,.int .i64 0),(5,true,.int .i64 i)],[]⟩,fun i=>i<=a.1.length/\a.1.take i=(bU a.1 a.2).take i,fun i=>a.1.length - i⟩) a n)) [] Tryz.func98 (by unfold Tryz.f98; rfl) (fun _=>⟨(),trivial⟩) ?_
 intro a ha;obtain ⟨t,k⟩:=a;obtain ⟨q1,q2⟩:0<=k/\kE t k<=1152921504606846976:=ha;have e1:=fun i=>@IU t k i;have e2:=fun i=>@IV t k i;have e3:=fun i=>@IR t k i;have e6:=fun i=>@Be t k i;have e7:=fun i=>@wr t k i;have e8:=Bf k;simp -implicitDefEqProofs [td,Con.fn,ae,iw,tj,e8]
 try dsimp only
 refine ⟨⟨0,by simp [e8]⟩,fun i hi hpre _=>⟨fun hlt=>?_,fun hge=>e3 i hge hpre⟩⟩
 have g:=e6 i hlt;have g1:=e7 i;have g2:=e7 (i+1);simp [hlt,am,D.asStr,D.asRows,and_assoc];have hl:∀ l kk,jO l kk=if l=cL l.length kk then kk+l.length else -1:=fun _ _=>rfl
 have m1:=e1 i hlt;have m2:=e2 i hlt hpre;by_cases ht:t[i].text=cL t[i].text.length (kE (t.take i) k+1)
 ·have hh:jO t[i].text (kE (t.take i) k+1)=kE (t.take (i+1)) k:=by rw [hl,if_pos ht,g]
  rw [hh];exact ⟨by omega,fun hn=>m1 (.inl hn),fun hp=>⟨by omega,by omega,fun _ _=>⟨by omega,by omega,fun hn=>by omega,fun _=>⟨by omega,by omega,fun _ _=>⟨i+1,rfl,by omega,by omega,m2 hp ht,by omega⟩⟩⟩⟩⟩
 ·have hh:jO t[i].text (kE (t.take i) k+1) = -1:=by rw [hl,if_neg ht]
  rw [hh];exact ⟨by omega,fun hn=>m1 (.inl hn),fun hp=>⟨by omega,by omega,fun _ _=>⟨by omega,by omega,fun _=>m1 (.inr ht),fun hn=>by omega⟩⟩⟩
theorem JU {t:List FileD} {A B:Nat} (h1:t.length<=A) (h2:∀ f ∈ t,f.text.length<=B) (k:Int):k<=kE t k/\kE t k<=k+A+B * A:=by
 have h3:=M0 t h2;have h4:B * t.length<=B * A:=Nat.mul_le_mul_left _ h1;unfold kE;refine ⟨by omega,?_⟩
 have:(dO t:Int)<=((B * A:Nat):Int):=by omega
 rw [Int.natCast_mul] at this;omega
def pI:Con:=.fn 26 (List Str × List Str) (fun a=>[.sl true 1 (aa a.1),.sl true 1 (aa a.2)]) (fun _=>True) (fun a=>.bool (decide (a.1=a.2))) (fun _=>[])
theorem Bv:Has Tryz.prog 265 pI:=by
 refine ag mixed ak HasL.nil [0,1,4,5] ((fun a n (_:Nat)=>(fun a _=>⟨Nat,fun i=>⟨[(0,true,.sl true 1 (aa a.1)),(1,true,.sl true 1 (aa a.2)),(4,true,.bool false),(5,true,.int .i64 i)],[]⟩,fun i=>i<=a.1.length/\a.1.length=a.2.length/\a.1.take i=a.2.take i,fun i=>a.1.length - i⟩) a n)) [] Tryz.func265 (by unfold Tryz.f265; rfl) (fun _=>⟨(),trivial⟩) ?_
 intro a _;obtain ⟨l,r⟩:=a;simp -implicitDefEqProofs [pI,Con.fn,ae]
 try dsimp only
 try simp +contextual -implicitDefEqProofs [al,am,aV,aL,aW,List.getElem?_eq_getElem,ba,aN,aT,aY,<- aP,<- aU,aO,aR,aZ,aX,aQ,aS,and_assoc]
 repeat' (first | intro _ | apply And.intro)
 all_goals first | omega | grind [bl,iB,gR]
def aH:List FileD->Str->List Str × Bool
 | [],_=>([],false)
 | f :: l,p=>if f.path=p then (f.text,true) else aH l p
def tN:Con:=.fn 25 (List FileD × Str) (fun a=>[.sl true 2 (ac a.1),.str a.2]) (fun _=>True) (fun a=>.tup [.sl true 1 (aa (aH a.1 a.2).1),.bool (aH a.1 a.2).2]) (fun _=>[])
theorem K6:Has Tryz.prog 246 tN:=by
 refine ag mixed ak HasL.nil [0,1,4,5,6] ((fun a n (_:Nat)=>(fun a _=>⟨Nat,fun i=>⟨[(0,true,.sl true 2 (ac a.1)),(1,true,.str a.2),(4,true,.nil),(5,true,.bool false),(6,true,.int .i64 i)],[]⟩,fun i=>i<=a.1.length/\aH (a.1.drop i) a.2=aH a.1 a.2,fun i=>a.1.length - i⟩) a n)) [] Tryz.func246 (by unfold Tryz.f246; rfl) (fun _=>⟨(),trivial⟩) ?_
 intro a _;obtain ⟨t,p⟩:=a;have e1:∀ i (h:i < t.length),aH (t.drop i) p=if t[i].path=p then (t[i].text,true) else aH (t.drop (i+1)) p:=fun i h=>by rw [List.drop_eq_getElem_cons h]; rfl
 have e2:∀ i,t.length<=i->aH (t.drop i) p=([],false):=fun i h=>by rw [List.drop_eq_nil_of_le h]; rfl
 simp -implicitDefEqProofs [tN,Con.fn,ae]
 try dsimp only
 refine fun i hi hpre _=>⟨fun hlt=>?_,fun hge=>?_⟩
 ·have g:=e1 i hlt;rw [hpre] at g;simp -implicitDefEqProofs [hlt,am,D.asStr,D.asRows,and_assoc];refine ⟨fun h=>?_,fun h=>⟨by omega,by omega,fun _ _=>⟨i+1,by omega,by omega,?_,by omega⟩⟩⟩
  ·rw [g,if_pos h]; exact ⟨rfl,rfl⟩
  ·rw [g,if_neg h]
 ·rw [<- hpre,e2 i hge]; exact ⟨rfl,rfl⟩
def atL:List HeadD->Str->Int
 | [],_=>-1
 | h :: l,n=>if h.name=n then h.at_ else atL l n
def iv:Con:=.fn 27 (RepoD × Str) (fun a=>[bF a.1,.str a.2]) (fun _=>True) (fun a=>.int .i64 (atL a.1.heads a.2)) (fun _=>[])
theorem jQ:Has Tryz.prog 84 iv:=by
 refine ag mixed ak HasL.nil [0,1,2,4,5] ((fun a n (_:Nat)=>(fun a _=>⟨Nat,fun i=>⟨[(1,true,.str a.2),(2,true,.ptr 10 0),(4,true,.int .i64 0),(5,true,.int .i64 i)],[(10,cV a.1)]⟩,fun i=>i<=a.1.heads.length/\atL (a.1.heads.drop i) a.2=atL a.1.heads a.2,fun i=>a.1.heads.length - i⟩) a n)) [] Tryz.func84 (by unfold Tryz.f84; rfl) (fun _=>⟨(),trivial⟩) ?_
 intro a _;obtain ⟨r,p⟩:=a;have e1:∀ i (h:i < r.heads.length),atL (r.heads.drop i) p=if r.heads[i].name=p then r.heads[i].at_ else atL (r.heads.drop (i+1)) p:=fun i h=>by rw [List.drop_eq_getElem_cons h]; rfl
 have e2:∀ i,r.heads.length<=i->atL (r.heads.drop i) p = -1:=fun i h=>by rw [List.drop_eq_nil_of_le h]; rfl
 simp -implicitDefEqProofs [iv,Con.fn,ae,bR]
 try dsimp only
 refine fun i hi hpre _=>⟨fun hlt=>?_,fun hge=>by rw [<- hpre,e2 i hge]⟩
 have g:=e1 i hlt;rw [hpre] at g;simp -implicitDefEqProofs [hlt,bw,D.asStr,D.asInt,and_assoc];refine ⟨fun h=>?_,fun h=>⟨by omega,by omega,fun _ _=>⟨i+1,by omega,by omega,?_,by omega⟩⟩⟩
 ·rw [g,if_pos h]
 ·rw [g,if_neg h]
def bK (p:Str) (f:FileD):Bool:=decide (f.path ≠ p) && !inB p f.path
def pN:Con:=.fn 39 (List FileD × Str) (fun a=>[.sl true 2 (ac a.1),.str a.2]) (fun a=>a.1.length<=1048576) (fun a=>.sl false 2 (ac (aI (bK a.2) a.1))) (fun _=>[])
theorem BD:Has Tryz.prog 141 pN:=by
 refine ag mixed ak (HasL.cons wJ HasL.nil) [0,1,4,5,6] ((fun a n (_:Nat)=>(fun a _=>⟨Nat,fun i=>⟨[(0,true,.sl true 2 (ac a.1)),(1,true,.str a.2),(4,true,.nil),(5,true,.own 9 2 (ac (aI (bK a.2) (a.1.take i)))),(6,true,.int .i64 i)],[(9,.own 99 2 false (ac (aI (bK a.2) (a.1.take i))))]⟩,fun i=>i<=a.1.length,fun i=>a.1.length - i⟩) a n)) [36] Tryz.func141 (by unfold Tryz.f141; rfl) (fun _=>⟨(),trivial⟩) ?_
 intro a ha;obtain ⟨t,p⟩:=a;replace ha:t.length<=1048576:=ha;have e1:=fun i h=>@vP (bK p) t i h;have e2:=fun i h=>@vQ (bK p) t i h;simp -implicitDefEqProofs [pN,nr,Con.fn,ae]
 try dsimp only
 refine ⟨⟨0,by simp -implicitDefEqProofs [aI]⟩,fun i hi _=>⟨fun hlt=>?_,fun hge=>?_⟩⟩
 ·have g1:=e1 i hlt;have g2:=e2 i hlt;have hl:(aI (bK p) (t.take i)).length<=1048576:=by have:=List.length_filter_le (bK p) (t.take i); unfold aI; simp at this ⊢; omega
  simp -implicitDefEqProofs [hlt,am,D.asStr,D.asRows,and_assoc];refine ⟨fun h=>⟨fun hi2=>⟨by omega,by omega,by omega,by omega,fun _ _=>⟨i+1,?_,by omega,?_,by omega,by omega⟩⟩,fun hi2=>⟨by omega,by omega,fun _ _=>⟨i+1,?_,by omega,?_,by omega,by omega⟩⟩⟩,fun h=>⟨by omega,by omega,fun _ _=>⟨i+1,?_,by omega,?_,by omega,by omega⟩⟩⟩
  ·rw [g1 (by simp -implicitDefEqProofs [bK,h,hi2])]; simp -implicitDefEqProofs [ac,am]
  ·rw [g1 (by simp -implicitDefEqProofs [bK,h,hi2])]; simp -implicitDefEqProofs [ac,am]
  ·rw [g2 (by simp -implicitDefEqProofs [bK,h,hi2])]
  ·rw [g2 (by simp -implicitDefEqProofs [bK,h,hi2])]
  ·rw [g2 (by simp -implicitDefEqProofs [bK,h])]
  ·rw [g2 (by simp -implicitDefEqProofs [bK,h])]
 ·rw [List.take_of_length_le hge]
def lcs:List Str->List Str->Int
 | [],_=>0
 | _ :: _,[]=>0
 | x :: a,y :: b=>if x=y then lcs a b+1 else if lcs (x :: a) b<=lcs a (y :: b) then lcs a (y :: b) else lcs (x :: a) b
termination_by a b=>a.length+b.length
def iA (r:List Int):List D:=[.sl 3 1 (aj r)]
def bz (t:List (List Int)):List (List D):=t.map iA
@[simp] theorem eRows_length (l:List (List Int)):(bz l).length=l.length:=by simp -implicitDefEqProofs [bz]
@[simp] theorem eRows_nil:bz []=[]:=rfl
@[simp] theorem eRows_get (l:List (List Int)) (i:Nat):(bz l)[i]? = l[i]?.map iA:=by simp -implicitDefEqProofs [bz]
def bh (a b:List Str) (p q:Nat):List (List Int):=(List.range (a.length+1)).map fun r=>(List.range (b.length+1)).map fun c=>if p<=r \/ (r+1=p/\q<=c) then lcs (a.drop r) (b.drop c) else 0
theorem DA (i n:Nat):bz (List.replicate (i+1) (List.replicate (n+1) 0))=bz (List.replicate i (List.replicate (n+1) 0))++[[D.sl 3 1 (List.replicate (n+1) [D.int .i64 0])]]:=by
 rw [List.replicate_succ'];simp -implicitDefEqProofs [bz,iA,aj,aq]
theorem rJ {a b:List Str} {p q:Nat}:(bh a b p q).length=a.length+1:=by simp -implicitDefEqProofs [bh]
def cJ (a b:List Str) (p q r:Nat):List Int:=(List.range (b.length+1)).map fun c=>if p<=r \/ (r+1=p/\q<=c) then lcs (a.drop r) (b.drop c) else 0
theorem j9 {a b:List Str} {p q r:Nat} (h:r<=a.length):(bh a b p q)[r]? = some (cJ a b p q r):=by simp -implicitDefEqProofs [bh,cJ,List.getElem?_map,List.getElem?_range (show r < a.length+1 by omega)]
theorem LB (b:List Str):lcs [] b=0:=by rw [lcs]
theorem LC (a:List Str):lcs a []=0:=by cases a <;> rw [lcs]
theorem rI {a b:List Str} {i:Nat} (h:a.length+1=i):bh a b a.length (b.length+1)=List.replicate i (List.replicate (b.length+1) 0):=by
 subst h;apply List.ext_getElem
 ·simp -implicitDefEqProofs [bh]
 ·intro r h1 h2;apply List.ext_getElem
  ·simp -implicitDefEqProofs [bh]
  ·intro c h3 h4;simp only [bh,List.getElem_map,List.getElem_range,List.getElem_replicate];split
   ·rename_i h5;have h6:a.drop r=[]:=by
     rcases h5 with h5 | ⟨_,h5⟩
     ·exact List.drop_eq_nil_of_le h5
     ·simp -implicitDefEqProofs [bh] at h3; omega
    rw [h6,LB]
   ·rfl
theorem rH {a b:List Str} {p:Nat}:bh a b p b.length=bh a b p (b.length+1):=by
 unfold bh;apply List.map_congr_left;intro r _;apply List.map_congr_left;intro c hc;have hc:c < b.length+1:=by simpa using hc
 by_cases h:p<=r
 ·rw [if_pos (.inl h),if_pos (.inl h)]
 ·by_cases h2:r+1=p/\b.length<=c
  ·rw [if_pos (.inr h2),if_neg (by omega),List.drop_eq_nil_of_le h2.2,LC]
  ·rw [if_neg (by omega),if_neg (by omega)]
theorem rK {a b:List Str} {p:Nat} (h:0 < p):bh a b (p - 1) (b.length+1)=bh a b p 0:=by
 unfold bh;apply List.map_congr_left;intro r _;apply List.map_congr_left;intro c hc;have hc:c < b.length+1:=by simpa using hc
 by_cases h2:p<=r+1
 ·rw [if_pos (.inl (by omega)),if_pos (by omega)]
 ·rw [if_neg (by omega),if_neg (by omega)]
theorem D8 {a b:List Str} {q:Nat}:bh a b 0 q=bh a b 0 0:=by
 unfold bh;apply List.map_congr_left;intro r _;apply List.map_congr_left;intro c _;rw [if_pos (.inl (Nat.zero_le _)),if_pos (.inl (Nat.zero_le _))]
theorem j8 {a b:List Str} {p q r:Nat}:(cJ a b p q r).length=b.length+1:=by simp -implicitDefEqProofs [cJ]
theorem iU {a b:List Str} {p q r c:Nat} (h:c<=b.length):(cJ a b p q r)[c]? = some (if p<=r \/ (r+1=p/\q<=c) then lcs (a.drop r) (b.drop c) else 0):=by simp -implicitDefEqProofs [cJ,List.getElem?_map,List.getElem?_range (show c < b.length+1 by omega)]
theorem ms (a b:List Str):0<=lcs a b/\lcs a b<=a.length:=by
 fun_induction lcs a b
 ·simp
 ·simp; omega
 ·simp_all; omega
 ·simp_all; omega
 ·simp_all
theorem BK {a b:List Str} {p q:Nat} (hp:0 < p) (hp2:p<=a.length) (hq:0 < q) (hq2:q<=b.length):lcs (a.drop (p - 1)) (b.drop (q - 1))=if a[p - 1]=b[q - 1] then lcs (a.drop p) (b.drop q)+1 else if lcs (a.drop (p - 1)) (b.drop q)<=lcs (a.drop p) (b.drop (q - 1)) then lcs (a.drop p) (b.drop (q - 1)) else lcs (a.drop (p - 1)) (b.drop q):=by
 have e1:a.drop (p - 1)=a[p - 1] :: a.drop p:=by rw [List.drop_eq_getElem_cons (show p - 1 < a.length by omega),show p - 1+1=p by omega]
 have e2:b.drop (q - 1)=b[q - 1] :: b.drop q:=by rw [List.drop_eq_getElem_cons (show q - 1 < b.length by omega),show q - 1+1=q by omega]
 rw [e1,e2,lcs]
theorem D7 {a b:List Str} {p q:Nat} (hp:0 < p) (hp2:p<=a.length) (hq:0 < q) (hq2:q<=b.length):∀ v,v=lcs (a.drop (p - 1)) (b.drop (q - 1))->(bz (bh a b p q)).set (p - 1) [D.sl 3 1 ((aj (cJ a b p q (p - 1))).set (q - 1) [D.int .i64 v])]=bz (bh a b p (q - 1)):=by
 intro v hv;have e:(bh a b p q).set (p - 1) ((cJ a b p q (p - 1)).set (q - 1) v)=bh a b p (q - 1):=by
  apply List.ext_getElem
  ·simp -implicitDefEqProofs [bh]
  ·intro r h1 h2;rw [List.getElem_set];split
   ·rename_i hr;subst hr;apply List.ext_getElem
    ·simp -implicitDefEqProofs [bh,cJ]
    ·intro c h3 h4;rw [List.getElem_set];split
     ·rename_i hc;subst hc;simp only [bh,List.getElem_map,List.getElem_range];rw [if_pos (by omega),hv]
     ·rename_i hc;simp only [bh,cJ,List.getElem_map,List.getElem_range];by_cases h:p<=p - 1 \/ (p - 1+1=p/\q<=c)
      ·rw [if_pos h,if_pos (by omega)]
      ·rw [if_neg h,if_neg (by omega)]
   ·rename_i hr;simp only [bh,List.getElem_map,List.getElem_range];apply List.map_congr_left;intro c _;by_cases h:p<=r \/ (r+1=p/\q<=c)
    ·rw [if_pos h,if_pos (by omega)]
    ·rw [if_neg h,if_neg (by omega)]
 rw [<- e];simp -implicitDefEqProofs [bz,iA,aj,List.map_set,aq]
def wG (a b:List Str):Inv:=⟨Nat,fun i=>⟨[(0,true,.sl true 1 (aa a)),(1,true,.sl true 1 (aa b)),(4,true,.nil),(5,true,.own 9 1 (bz (List.replicate i (List.replicate (b.length+1) 0)))),(6,true,.int .i64 i)],[(9,.own 84 1 true (bz (List.replicate i (List.replicate (b.length+1) 0))))]⟩,fun i=>i<=a.length+1,fun i=>a.length+1 - i⟩
def wH (a b:List Str):Inv:=⟨Nat,fun p=>⟨[(0,true,.sl true 1 (aa a)),(1,true,.sl true 1 (aa b)),(4,true,.nil),(5,true,.own 9 1 (bz (bh a b p (b.length+1)))),(7,true,.int .i64 ((p:Int) - 1))],[(9,.own 84 1 true (bz (bh a b p (b.length+1))))]⟩,fun p=>p<=a.length,fun p=>p⟩
def wI (a b:List Str) (g:Nat):Inv:=⟨Nat,fun q=>⟨[(0,true,.sl true 1 (aa a)),(1,true,.sl true 1 (aa b)),(4,true,.nil),(5,true,.own 9 1 (bz (bh a b g q))),(7,true,.int .i64 ((g:Int) - 1)),(8,true,.int .i64 ((q:Int) - 1))],[(9,.own 84 1 true (bz (bh a b g q)))]⟩,fun q=>q<=b.length/\0 < g/\g<=a.length,fun q=>q⟩
def qR (a b:List Str) (n g:Nat):Inv:=if n=3 then wG a b else if n=7 then wH a b else wI a b g
theorem KV (a b g):qR a b 3 g=wG a b:=rfl
theorem KW (a b g):qR a b 7 g=wH a b:=rfl
theorem KU (a b g):qR a b 10 g=wI a b g:=rfl
def tJ:Con:=.fn 110 (List Str × List Str) (fun a=>[.sl true 1 (aa a.1),.sl true 1 (aa a.2)]) (fun a=>a.1.length<=1048576/\a.2.length<=1048576) (fun a=>.own 8 1 (bz (bh a.1 a.2 0 0))) (fun a=>[(8,.own 84 1 true (bz (bh a.1 a.2 0 0)))])
theorem KT:Has Tryz.prog 277 tJ:=by
 refine ag mixed ak HasL.nil [0,1,4,5,6,7,8] (fun a=>qR a.1 a.2) [] Tryz.func277 (by unfold Tryz.f277; rfl) (fun _=>⟨(),trivial⟩) ?_
 intro a ha;obtain ⟨a,b⟩:=a;obtain ⟨h1,h2⟩:a.length<=1048576/\b.length<=1048576:=ha;simp (maxSteps:=4000000) [tJ,Con.fn,ae,KV,KW,KU,wG,wH,wI]
 try dsimp only
 refine ⟨⟨0,by simp⟩,fun i hi _=>⟨fun hlt _=>⟨by omega,fun _ _=>⟨by omega,fun _ _ _=>⟨by omega,by omega,fun _ _=>⟨i+1,⟨⟨?_,by omega⟩,?_⟩,by omega,by omega⟩⟩⟩⟩,fun hge _=>⟨by omega,fun _ _=>⟨⟨a.length,⟨⟨?_,rfl⟩,?_⟩,Nat.le_refl _⟩,fun p hp=>⟨fun h1p _=>⟨by omega,fun _ _=>⟨p,⟨b.length,⟨⟨?_,rfl,rfl⟩,?_⟩,Nat.le_refl _,by omega,hp⟩,fun q hq hg hga=>⟨fun hq1=>?_,fun hq0=>⟨by omega,fun _ _=>⟨p - 1,⟨⟨?_,by omega⟩,?_⟩,by omega,by omega⟩⟩⟩⟩⟩,fun hp0=>?_⟩⟩⟩⟩⟩
 ·rw [DA]
 ·rw [DA]
 ·rw [rI (show a.length+1=i by omega)]
 ·rw [rI (show a.length+1=i by omega)]
 ·rw [rH]
 ·rw [rH]
 ·obtain ⟨T,hT⟩:∃ T,T=bh a b p q:=⟨_,rfl⟩;have t1:=@rJ a b p q;have t2:=j9 (a:=a) (b:=b) (p:=p) (q:=q) (r:=p) (by omega)
  have t3:=j9 (a:=a) (b:=b) (p:=p) (q:=q) (r:=p - 1) (by omega)
  have t4:a[p - 1]? = some a[p - 1]:=List.getElem?_eq_getElem (by omega)
  have t5:b[q - 1]? = some b[q - 1]:=List.getElem?_eq_getElem (by omega)
  have u1:=@j8 a b p q p;have u2:=@j8 a b p q (p - 1);have u3:(cJ a b p q p)[q]? = some (lcs (a.drop p) (b.drop q)):=by rw [iU (by omega),if_pos (by omega)]
  have u4:(cJ a b p q p)[q - 1]? = some (lcs (a.drop p) (b.drop (q - 1))):=by rw [iU (by omega),if_pos (by omega)]
  have u5:(cJ a b p q (p - 1))[q]? = some (lcs (a.drop (p - 1)) (b.drop q)):=by rw [iU (by omega),if_pos (by omega)]
  have v1:=ms (a.drop p) (b.drop q);have v2:=ms (a.drop p) (b.drop (q - 1));have v3:=ms (a.drop (p - 1)) (b.drop q);have v4:(a.drop p).length<=a.length:=by simp
  have v5:(a.drop (p - 1)).length<=a.length:=by simp
  have w1:=D7 (a:=a) (b:=b) (p:=p) (q:=q) hg hga (by omega) hq
  have w2:=BK (a:=a) (b:=b) (p:=p) (q:=q) hg hga (by omega) hq
  rw [<- hT] at t1 t2 t3 w1 ⊢;clear hT;generalize lcs (a.drop p) (b.drop q)=L11 at *;generalize lcs (a.drop p) (b.drop (q - 1))=L10 at *;generalize lcs (a.drop (p - 1)) (b.drop q)=L01 at *;generalize cJ a b p q p=rB at *;generalize cJ a b p q (p - 1)=rA at *;simp -implicitDefEqProofs [t1,t2,t3,t4,t5,u1,u2,u3,u4,u5,aq,al,D.asStr,iA,D.asRows,D.asInt,and_assoc];have fin:∀ v,v=lcs (a.drop (p - 1)) (b.drop (q - 1)) -> ∃ t',bz (bh a b p t')=(bz T).set (p - 1) [D.sl 3 1 ((aj rA).set (q - 1) [D.int .i64 v])]/\(t':Int)=q - 1/\(bz T).set (p - 1) [D.sl 3 1 ((aj rA).set (q - 1) [D.int .i64 v])]=bz (bh a b p t')/\t'<=b.length/\0 < p/\p<=a.length/\t' < q :=
   fun v hv=>⟨q - 1,(w1 v hv).symm,by omega,w1 v hv,by omega,hg,hga,by omega⟩
  repeat' (first | intro _ | apply And.intro)
  all_goals first | omega | exact fin _ (by rw [w2,if_pos (by assumption)]) | exact fin _ (by rw [w2,if_neg (by assumption),if_pos (by assumption)]) | exact fin _ (by rw [w2,if_neg (by assumption),if_neg (by omega)])
 ·rw [show q=0 by omega,rK (by omega)]
 ·rw [show q=0 by omega,rK (by omega)]
 ·rw [show p=0 by omega,D8]; exact ⟨rfl,rfl⟩
def mt:List Str->List Str->Nat->List Int
 | [],_,_=>[]
 | _ :: a,[],k=>-1 :: mt a [] k
 | x :: a,y :: b,k=>if x=y then (k:Int) :: mt a b (k+1) else if lcs (x :: a) b<=lcs a (y :: b) then -1 :: mt a (y :: b) k else mt (x :: a) b (k+1)
termination_by a b=>a.length+b.length
theorem mz (a b:List Str) (k:Nat):(mt a b k).length=a.length:=by
 fun_induction mt a b k <;> simp_all
theorem B6 {a b:List Str} {i k:Nat} (h:i < a.length) (hk:b.length<=k):mt (a.drop i) (b.drop k) k = -1 :: mt (a.drop (i+1)) (b.drop k) k:=by rw [List.drop_eq_getElem_cons h,List.drop_eq_nil_of_le hk,mt]
theorem B7 {a b:List Str} {i k:Nat} (h:i < a.length) (hk:k < b.length):mt (a.drop i) (b.drop k) k=if a[i]=b[k] then (k:Int) :: mt (a.drop (i+1)) (b.drop (k+1)) (k+1) else if lcs (a.drop i) (b.drop (k+1))<=lcs (a.drop (i+1)) (b.drop k) then -1 :: mt (a.drop (i+1)) (b.drop k) k else mt (a.drop i) (b.drop (k+1)) (k+1):=by
 have e1:a.drop i=a[i] :: a.drop (i+1):=List.drop_eq_getElem_cons h;have e2:b.drop k=b[k] :: b.drop (k+1):=List.drop_eq_getElem_cons hk;rw [e1,e2,mt]
theorem gH (o:List Int) (v:Int):aj (o++[v])=aj o++[[D.int .i64 v]]:=by simp -implicitDefEqProofs [aj,aq]
def l1m (a b:List Str):Inv:=⟨Nat × Nat × List Int,fun t=>⟨[(0,true,.sl true 1 (aa a)),(1,true,.sl true 1 (aa b)),(4,true,.nil),(5,true,.own 9 1 (bz (bh a b 0 0))),(6,true,.own 10 1 (aj t.2.2)),(7,true,.int .i64 t.2.1),(8,true,.int .i64 t.1)],[(9,.own 84 1 true (bz (bh a b 0 0))),(10,.own 3 1 true (aj t.2.2))]⟩,
 fun t=>t.1<=a.length/\t.2.1<=b.length/\t.2.2.length=t.1/\t.2.2++mt (a.drop t.1) (b.drop t.2.1) t.2.1=mt a b 0,fun t=>(a.length - t.1)+(b.length - t.2.1)⟩
def tI:Con:=.fn 73 (List Str × List Str) (fun a=>[.sl true 1 (aa a.1),.sl true 1 (aa a.2)]) (fun a=>a.1.length<=1048576/\a.2.length<=1048576) (fun a=>.own 8 1 (aj (mt a.1 a.2 0))) (fun a=>kT 8 (mt a.1 a.2 0))
theorem KR:Has Tryz.prog 266 tI:=by
 refine ag mixed ak (HasL.cons KT HasL.nil) [0,1,4,5,6,7,8] ((fun a n (_:Nat)=>(fun a _=>l1m a.1 a.2) a n)) [] Tryz.func266 (by unfold Tryz.f266; rfl) (fun _=>⟨(),trivial⟩) ?_
 intro a ha;obtain ⟨a,b⟩:=a;obtain ⟨h1,h2⟩:a.length<=1048576/\b.length<=1048576:=ha;simp (maxSteps:=4000000) [tI,tJ,Con.fn,ae,l1m]
 try dsimp only
 refine ⟨a,b,⟨rfl,rfl⟩,⟨h1,h2⟩,⟨0,0,[],⟨⟨rfl,rfl,rfl,rfl⟩,rfl,rfl⟩,Nat.zero_le _,Nat.zero_le _,rfl,by simp⟩,fun i k out hi hk hl hm _=>⟨fun hlt=>?_,fun hge=>?_⟩⟩
 ·have t1:=@rJ a b 0 0;have t2:=j9 (a:=a) (b:=b) (p:=0) (q:=0) (r:=i) (by omega)
  have t3:=j9 (a:=a) (b:=b) (p:=0) (q:=0) (r:=i+1) (by omega)
  have u1:=@j8 a b 0 0 i;have u2:=@j8 a b 0 0 (i+1);have t4:a[i]? = some a[i]:=List.getElem?_eq_getElem hlt;have m0:=B6 (a:=a) (b:=b) (i:=i) (k:=k) hlt;rcases Nat.lt_or_ge k b.length with hkb | hkb
  ·have t5:b[k]? = some b[k]:=List.getElem?_eq_getElem hkb;have u3:(cJ a b 0 0 (i+1))[k]? = some (lcs (a.drop (i+1)) (b.drop k)):=by rw [iU (by omega),if_pos (by omega)]
   have u4:(cJ a b 0 0 i)[k+1]? = some (lcs (a.drop i) (b.drop (k+1))):=by rw [iU (by omega),if_pos (by omega)]
   have m1:=B7 (a:=a) (b:=b) (i:=i) (k:=k) hlt hkb;generalize bh a b 0 0=T at *;generalize cJ a b 0 0 i=rA at *;generalize cJ a b 0 0 (i+1)=rB at *;generalize lcs (a.drop (i+1)) (b.drop k)=L1 at *;generalize lcs (a.drop i) (b.drop (k+1))=L2 at *;have g1:¬ b.length<=k:=by omega
   obtain ⟨_,u6⟩:=List.getElem?_eq_some_iff.1 u4;simp -implicitDefEqProofs [hkb,g1,t1,t2,t3,t4,t5,u1,u2,u3,u4,u6,aq,al,D.asStr,iA,D.asRows,D.asInt,and_assoc];refine ⟨hlt,fun _=>⟨fun e=>⟨by omega,by omega,by omega,by omega,fun _ _=>⟨by omega,by omega,fun _ _=>⟨i+1,k+1,out++[(k:Int)],gH _ _,by omega,by omega,(gH _ _).symm,by omega,by omega,by simp -implicitDefEqProofs [hl],?_,by omega⟩⟩⟩,fun e=>⟨by omega,by omega,fun _ _=>⟨by omega,by omega,fun _ _=>⟨by omega,fun _=>⟨by omega,fun _=>⟨by omega,by omega,fun _ _=>⟨by omega,fun _=>⟨fun c=>⟨by omega,by omega,by omega,by omega,fun _ _=>⟨i+1,k,out++[-1],gH _ _,by omega,by omega,(gH _ _).symm,by omega,by omega,by simp -implicitDefEqProofs [hl],?_,by omega⟩⟩,fun c=>⟨by omega,by omega,fun _ _=>⟨i,k+1,by omega,by omega,by omega,by omega,hl,?_,by omega⟩⟩⟩⟩⟩⟩⟩⟩⟩⟩⟩
   ·rw [<- hm,m1,if_pos e]; simp
   ·rw [<- hm,m1,if_neg e,if_pos c]; simp
   ·rw [<- hm,m1,if_neg e,if_neg (by omega)]
  ·have g1:¬ k < b.length:=by omega
   simp -implicitDefEqProofs [hkb,g1,t4,al,D.asStr,and_assoc];refine ⟨by omega,by omega,by omega,by omega,fun _ _=>⟨i+1,k,out++[-1],gH _ _,by omega,by omega,(gH _ _).symm,by omega,by omega,by simp -implicitDefEqProofs [hl],?_,by omega⟩⟩
   rw [<- hm,m0 (by omega)]; simp
 ·rw [List.drop_eq_nil_of_le hge,mt,List.append_nil] at hm;exact ⟨hm.symm,hm⟩
structure PartD where
 clash:Bool
 lines:List Str
 old:List Str
 one:List Str
 two:List Str
 deriving DecidableEq,Inhabited
def cO (a:PartD):List D:=[.bool a.clash,.sl 9 1 (aa a.lines),.sl 9 1 (aa a.old),.sl 9 1 (aa a.one),.sl 9 1 (aa a.two)]
@[simp] theorem ePart_inj (a b:PartD):(cO a=cO b)=(a=b):=by cases a; cases b; simp -implicitDefEqProofs [cO]
@[simp] theorem PartD.eta (a:PartD):(⟨a.clash,a.lines,a.old,a.one,a.two⟩:PartD)=a:=rfl
theorem PartD.eq_iff (a b:PartD):(a=b)=(a.clash=b.clash/\a.lines=b.lines/\a.old=b.old/\a.one=b.one/\a.two=b.two):=by cases a; cases b; simp
@[simp] theorem PartD.ex1 (x_clash:Bool) (x_lines:List Str) (x_old:List Str) (x_one:List Str) (x_two:List Str) (Q:PartD->Prop):(∃ a:PartD,a.clash=x_clash/\a.lines=x_lines/\a.old=x_old/\a.one=x_one/\a.two=x_two/\Q a)=Q ⟨x_clash,x_lines,x_old,x_one,x_two⟩:=by
 apply propext;constructor
 ·rintro ⟨⟨_,_,_,_,_⟩,rfl,rfl,rfl,rfl,rfl,h⟩; exact h
 ·intro h; exact ⟨⟨x_clash,x_lines,x_old,x_one,x_two⟩,rfl,rfl,rfl,rfl,rfl,h⟩
@[simp] theorem PartD.ex2 (x_clash:Bool) (x_lines:List Str) (x_old:List Str) (x_one:List Str) (x_two:List Str) (Q:PartD->Prop):(∃ a:PartD,(a.clash=x_clash/\a.lines=x_lines/\a.old=x_old/\a.one=x_one/\a.two=x_two)/\Q a)=Q ⟨x_clash,x_lines,x_old,x_one,x_two⟩:=by
 apply propext;constructor
 ·rintro ⟨⟨_,_,_,_,_⟩,⟨rfl,rfl,rfl,rfl,rfl⟩,h⟩; exact h
 ·intro h; exact ⟨⟨x_clash,x_lines,x_old,x_one,x_two⟩,⟨rfl,rfl,rfl,rfl,rfl⟩,h⟩
@[simp] theorem PartD.ex0 (x_clash:Bool) (x_lines:List Str) (x_old:List Str) (x_one:List Str) (x_two:List Str):(∃ a:PartD,a.clash=x_clash/\a.lines=x_lines/\a.old=x_old/\a.one=x_one/\a.two=x_two)=True:=by
 simp only [eq_iff_iff,iff_true];exact ⟨⟨x_clash,x_lines,x_old,x_one,x_two⟩,rfl,rfl,rfl,rfl,rfl⟩
def aD (l:List PartD):List (List D):=l.map cO
@[simp] theorem eParts_length (l:List PartD):(aD l).length=l.length:=by simp -implicitDefEqProofs [aD]
@[simp] theorem eParts_nil:aD []=[]:=rfl
@[simp] theorem eParts_get (l:List PartD) (i:Nat):(aD l)[i]? = l[i]?.map cO:=by simp -implicitDefEqProofs [aD]
@[simp] theorem eParts_getElem (l:List PartD) (i:Nat) (h:i < (aD l).length):(aD l)[i]=cO (l[i]'(by simpa using h)):=by simp -implicitDefEqProofs [aD]
@[simp] theorem eParts_inj (a b:List PartD):(aD a=aD b)=(a=b):=by
 apply propext;constructor
 ·intro h;exact List.map_inj_right (fun x y h=>by simpa using h) |>.1 h
 ·rintro rfl; rfl
@[simp] theorem eParts_eq_nil (a:List PartD):(aD a=[])=(a=[]):=by simp -implicitDefEqProofs [aD]
@[simp] theorem nil_eq_eParts (a:List PartD):([]=aD a)=(a=[]):=by simp -implicitDefEqProofs [aD,eq_comm]
theorem Hr (a b:List PartD):aD (a++b)=aD a++aD b:=by simp -implicitDefEqProofs [aD]
abbrev xj (h:Nat) (a:List PartD):List (Nat × Blk):=[(h,.own 237 5 true (aD a))]
def bE (o a b:List Str):PartD:=if a=o \/ a=b then ⟨false,b,[],[],[]⟩ else if b=o then ⟨false,a,[],[],[]⟩ else ⟨true,[],o,a,b⟩
theorem CR (o a b:List Str):(bE o a b).lines.length<=a.length+b.length:=by
 unfold bE;split
 ·simp
 ·split <;> simp
def bI (l:List PartD) (p:PartD):List PartD :=
 if p.clash=false/\p.lines=[] then l
 else match l.getLast? with
  | some q=>if p.clash=false/\q.clash=false then l.set (l.length - 1) ⟨q.clash,q.lines++p.lines,q.old,q.one,q.two⟩ else l++[p]
  | none=>l++[p]
theorem ro (l:List PartD) (p:PartD):(bI l p).length<=l.length+1:=by
 unfold bI;split
 ·omega
 ·split
  ·split <;> simp
  ·simp
theorem rn {l:List PartD} {p:PartD} {n:Nat} (h:∀ q ∈ l,q.lines.length<=n):∀ q ∈ bI l p,q.lines.length<=n+p.lines.length:=by
 intro q hq;unfold bI at hq;split at hq
 ·have:=h q hq; omega
 ·split at hq
  ·rename_i r hr;split at hq
   ·rcases List.mem_or_eq_of_mem_set hq with hq | hq
    ·have:=h q hq; omega
    ·subst hq;have:=h r (List.mem_of_getLast? hr);simp; omega
   ·rcases List.mem_append.1 hq with hq | hq
    ·have:=h q hq; omega
    ·simp at hq; subst hq; omega
  ·rcases List.mem_append.1 hq with hq | hq
   ·have:=h q hq; omega
   ·simp at hq; subst hq; omega
def asc:Int->Int->List Int->Prop
 | _,_,[]=>True
 | k,n,x :: l=>(x < 0/\asc k n l) \/ (k<=x/\x < n/\asc (x+1) n l)
theorem o9:∀ {l:List Int} {k k' n:Int},k<=k'->asc k' n l->asc k n l
 | [],_,_,_,_,_=>trivial
 | x :: l,k,k',n,h,h2=>by
  rcases h2 with ⟨h3,h4⟩ | ⟨h3,h4,h5⟩
  ·exact .inl ⟨h3,o9 h h4⟩
  ·exact .inr ⟨by omega,h4,h5⟩
theorem sk:∀ {l:List Int} {k n:Int},k<=n->asc k n l->asc k (n+1) (l++[n])
 | [],k,n,h,_=>.inr ⟨h,by omega,trivial⟩
 | x :: l,k,n,h,h2=>by
  rcases h2 with ⟨h3,h4⟩ | ⟨h3,h4,h5⟩
  ·exact .inl ⟨h3,sk h h4⟩
  ·exact .inr ⟨h3,by omega,sk (by omega) h5⟩
theorem MQ (a b:List Str) (k:Nat):asc k (k+b.length) (mt a b k):=by
 fun_induction mt a b k with
 | case1=>trivial
 | case2 x a k ih=>exact .inl ⟨by omega,ih⟩
 | case3 a y b k ih =>
  refine .inr ⟨by omega,by simp only [List.length_cons]; omega,?_⟩
  have e:((k+1:Nat):Int)+b.length=k+(y :: b).length:=by simp only [List.length_cons]; omega
  rw [e] at ih;exact ih
 | case4 x a y b k h h2 ih=>exact .inl ⟨by omega,ih⟩
 | case5 x a y b k h1 h2 ih =>
  have e:((k+1:Nat):Int)+b.length=k+(y :: b).length:=by simp only [List.length_cons]; omega
  rw [e] at ih;exact o9 (by omega) ih
def mtE (a b:List Str):List Int:=mt a b 0++[(b.length:Int)]
theorem mw (a b:List Str):(mtE a b).length=a.length+1:=by simp -implicitDefEqProofs [mtE,mz]
theorem B4 (a b:List Str):asc 0 (b.length+1) (mtE a b):=by
 have h:=MQ a b 0;have:=sk (k:=0) (n:=b.length) (by omega) (by simpa using h)
 exact this
theorem lC {l:List Int} {i:Nat} {k n:Int} (h:i < l.length) (ha:asc k n (l.drop i)):(l[i] < 0/\asc k n (l.drop (i+1))) \/ (k<=l[i]/\l[i] < n/\asc (l[i]+1) n (l.drop (i+1))):=by
 rw [List.drop_eq_getElem_cons h] at ha;exact ha
structure S3 where
 io:Nat
 ia:Nat
 ib:Nat
 out:List PartD
def ju (o a b:List Str) (x y:Int) (i:Nat) (s:S3):S3 :=
 if x < 0 \/ y < 0 then s
 else ⟨i+1,x.toNat+1,y.toNat+1,
  if i < o.length then bI (bI s.out (bE ((o.take i).drop s.io) ((a.take x.toNat).drop s.ia) ((b.take y.toNat).drop s.ib))) ⟨false,[o.getD i []],[],[],[]⟩
  else bI s.out (bE ((o.take i).drop s.io) ((a.take x.toNat).drop s.ia) ((b.take y.toNat).drop s.ib))⟩
def cN (o a b:List Str):Nat->S3
 | 0=>⟨0,0,0,[]⟩
 | i+1=>ju o a b ((mtE o a).getD i 0) ((mtE o b).getD i 0) i (cN o a b i)
def of3 (o a b:List Str):List PartD:=(cN o a b (o.length+1)).out
def Ok3 (o a b:List Str) (i:Nat) (s:S3):Prop :=
 s.io<=i/\s.ia<=a.length+1/\s.ib<=b.length+1/\asc s.ia (a.length+1) ((mtE o a).drop i)/\asc s.ib (b.length+1) ((mtE o b).drop i)/\s.out.length<=2 * i /\ ∀ q ∈ s.out,q.lines.length<=s.io+s.ia+s.ib
theorem M9 (o a b:List Str):Ok3 o a b 0 ⟨0,0,0,[]⟩:=⟨by simp,by simp,by simp,by simpa using B4 o a,by simpa using B4 o b,by simp,by simp⟩
theorem Nf {o a b:List Str} {i:Nat} {s:S3} (hi:i < o.length+1) (h:Ok3 o a b i s):Ok3 o a b (i+1) (ju o a b ((mtE o a).getD i 0) ((mtE o b).getD i 0) i s):=by
 obtain ⟨h1,h2,h3,h4,h5,h6,h7⟩:=h;have la:=mw o a;have lb:=mw o b;have ga:(mtE o a).getD i 0=(mtE o a)[i]'(by omega):=by simp -implicitDefEqProofs [List.getD_eq_getElem?_getD,List.getElem?_eq_getElem (show i < (mtE o a).length by omega)]
 have gb:(mtE o b).getD i 0=(mtE o b)[i]'(by omega):=by simp -implicitDefEqProofs [List.getD_eq_getElem?_getD,List.getElem?_eq_getElem (show i < (mtE o b).length by omega)]
 rw [ga,gb];have h4:=lC (l:=mtE o a) (by omega) h4
 have h5:=lC (l:=mtE o b) (by omega) h5
 generalize (mtE o a)[i]'(by omega)=x at *
 generalize (mtE o b)[i]'(by omega)=y at *
 unfold ju;split
 ·rename_i hxy;refine ⟨by omega,h2,h3,?_,?_,by omega,h7⟩
  ·rcases h4 with h4 | h4
   ·exact h4.2
   ·exact o9 (by omega) h4.2.2
  ·rcases h5 with h5 | h5
   ·exact h5.2
   ·exact o9 (by omega) h5.2.2
 ·rename_i hxy;rcases h4 with h4 | ⟨h4,h41,h42⟩
  ·omega
  rcases h5 with h5 | ⟨h5,h51,h52⟩
  ·omega
  have ex:((x.toNat+1:Nat):Int)=x+1:=by omega
  have ey:((y.toNat+1:Nat):Int)=y+1:=by omega
  have b1:=CR ((o.take i).drop s.io) ((a.take x.toNat).drop s.ia) ((b.take y.toNat).drop s.ib);have b2:=rn (p:=bE ((o.take i).drop s.io) ((a.take x.toNat).drop s.ia) ((b.take y.toNat).drop s.ib)) h7;have b3:=ro s.out (bE ((o.take i).drop s.io) ((a.take x.toNat).drop s.ia) ((b.take y.toNat).drop s.ib));generalize bE ((o.take i).drop s.io) ((a.take x.toNat).drop s.ia) ((b.take y.toNat).drop s.ib)=p at *;have b1:p.lines.length<=(x.toNat - s.ia)+(y.toNat - s.ib):=by
   refine Nat.le_trans b1 ?_;simp only [List.length_drop,List.length_take];omega
  refine ⟨by simp,by simp; omega,by simp; omega,by simpa only [ex] using h42,by simpa only [ey] using h52,?_,?_⟩
  ·show (if i < o.length then _ else _:List PartD).length<=_
   split
   ·have:=ro (bI s.out p) ⟨false,[o.getD i []],[],[],[]⟩;omega
   ·omega
  ·show ∀ q ∈ (if i < o.length then _ else _:List PartD),_
   split
   ·intro q hq;have:=rn (p:=⟨false,[o.getD i []],[],[],[]⟩) b2 q hq;simp at this
    show q.lines.length<=(i+1)+(x.toNat+1)+(y.toNat+1)
    omega
   ·intro q hq;have:=b2 q hq
    show q.lines.length<=(i+1)+(x.toNat+1)+(y.toNat+1)
    omega
theorem om (o a b:List Str):∀ i,i<=o.length+1->Ok3 o a b i (cN o a b i)
 | 0,_=>M9 o a b
 | i+1,h=>Nf (by omega) (om o a b i (by omega))
def cT (l:List PartD):List Str × Bool:=if l.any (·.clash) then ([],false) else if bD (l.flatMap (·.lines)) then (l.flatMap (·.lines),true) else ([],false)
--TAB aC
def aC:List (Nat × TI):=(138,⟨false,[.sl 4 1],24,[],4⟩) :: ae
theorem bn:∀ t ti,ai aC t=some ti->TOk Tryz.prog t ti:=rF (by kernel_rfl)
def cz (b:Bool):List D:=[.bool b]
@[simp] theorem eBool_inj (a b:Bool):(cz a=cz b)=(a=b):=by simp -implicitDefEqProofs [cz]
def be (l:List Bool):List (List D):=l.map cz
@[simp] theorem eBools_length (l:List Bool):(be l).length=l.length:=by simp -implicitDefEqProofs [be]
@[simp] theorem eBools_nil:be []=[]:=rfl
@[simp] theorem eBools_get (l:List Bool) (i:Nat):(be l)[i]? = l[i]?.map cz:=by simp -implicitDefEqProofs [be]
@[simp] theorem eBools_getElem (l:List Bool) (i:Nat) (h:i < (be l).length):(be l)[i]=cz (l[i]'(by simpa using h)):=by simp -implicitDefEqProofs [be]
@[simp] theorem eBools_inj (a b:List Bool):(be a=be b)=(a=b):=by
 apply propext;constructor
 ·intro h;exact List.map_inj_right (fun x y h=>by simpa using h) |>.1 h
 ·rintro rfl; rfl
@[simp] theorem eBools_eq_nil (a:List Bool):(be a=[])=(a=[]):=by simp -implicitDefEqProofs [be]
@[simp] theorem nil_eq_eBools (a:List Bool):([]=be a)=(a=[]):=by simp -implicitDefEqProofs [be,eq_comm]
theorem eJ (l:List Bool) (i:Nat) (b:Bool):(be l).set i [.bool b]=be (l.set i b):=by simp -implicitDefEqProofs [be,List.map_set,cz]
theorem jK (n:Nat) (b:Bool):List.replicate n [D.bool b]=be (List.replicate n b):=by simp -implicitDefEqProofs [be,cz]
abbrev CP (h:Nat) (a:List Bool):List (Nat × Blk):=[(h,.own 4 1 true (be a))]
def isT (l:List Bool) (i:Nat):Bool:=l.getD i false
def eu (l:List Bool) (i:Nat):List Int:=((List.range i).filter (isT l)).map fun j:Nat=>(j:Int)
theorem wZ {l:List Bool} {i:Nat} (h:isT l i=true):eu l (i+1)=eu l i++[(i:Int)]:=by simp -implicitDefEqProofs [eu,List.range_succ,h]
theorem w5 {l:List Bool} {i:Nat} (h:isT l i=false):eu l (i+1)=eu l i:=by simp -implicitDefEqProofs [eu,List.range_succ,h]
theorem oc (l:List Bool) (i:Nat):(eu l i).length<=i:=by
 have:=List.length_filter_le (isT l) (List.range i)
 simpa [eu] using this
def ar (l:List Bool):List Int:=eu l l.length
theorem listT_mem {l:List Bool} {x:Int}:x ∈ ar l ↔ ∃ i:Nat,i < l.length/\isT l i=true/\x=i:=by
 simp only [ar,eu,List.mem_map,List.mem_filter,List.mem_range];constructor
 ·rintro ⟨i,⟨h1,h2⟩,rfl⟩; exact ⟨i,h1,h2,rfl⟩
 ·rintro ⟨i,h1,h2,rfl⟩; exact ⟨i,⟨h1,h2⟩,rfl⟩
def uc:Con:=.fn 20 (List Bool) (fun l=>[.sl true 1 (be l)]) (fun l=>l.length<=1048576) (fun l=>.own 8 1 (aj (ar l))) (fun l=>kT 8 (ar l))
theorem LP:Has Tryz.prog 203 uc:=by
 refine ag mixed bn HasL.nil [0,2,3,4,5,6,7,8] ((fun a n (_:Nat)=>(fun l _=>⟨Nat,fun i=>⟨[(2,true,.nil),(3,true,.own 9 1 (aj (eu l i))),(6,true,.sl true 1 (be l)),(7,true,.int .i64 l.length),(8,true,.int .i64 i)],[(9,.own 3 1 true (aj (eu l i)))]⟩,fun i=>i<=l.length,fun i=>l.length - i⟩) a n)) [] Tryz.func203 (by unfold Tryz.f203; rfl) (fun _=>⟨(),trivial⟩) ?_
 intro (l:List Bool) (ha:l.length<=1048576);simp -implicitDefEqProofs [uc,Con.fn,aC,ae]
 try dsimp only
 refine fun _=>⟨⟨0,⟨⟨rfl,rfl⟩,rfl⟩,Nat.zero_le _⟩,fun i hi=>⟨fun hlt=>?_,fun hge=>?_⟩⟩
 ·have hl:=oc l i;have hi:isT l i=l[i]:=by simp -implicitDefEqProofs [isT,List.getD_eq_getElem?_getD,hlt]
  simp -implicitDefEqProofs [hlt,cz,D.asBool,and_assoc];refine ⟨fun h=>?_,fun h=>?_⟩
  ·have e:=wZ (hi.trans h);exact ⟨by omega,by omega,by omega,by omega,fun _ _=>⟨i+1,by rw [e]; simp -implicitDefEqProofs [aj,aq],by omega,by rw [e]; simp -implicitDefEqProofs [aj,aq],by omega,by omega⟩⟩
  ·have e:=w5 (hi.trans h);exact ⟨by omega,by omega,fun _ _=>⟨i+1,e,by omega,e.symm,by omega,by omega⟩⟩
 ·have:i=l.length:=by omega
  subst this;exact ⟨rfl,rfl⟩
def pQ:Con:=.fn 18 (List Int × Int) (fun a=>[.sl true 1 (aj a.1),.int .i64 a.2]) (fun _=>True) (fun a=>.bool (decide (a.2 ∈ a.1))) (fun _=>[])
theorem BJ:Has Tryz.prog 176 pQ:=by
 refine ag mixed bn HasL.nil [0,1,4,5] ((fun a n (_:Nat)=>(fun a _=>⟨Nat,fun i=>⟨[(0,true,.sl true 1 (aj a.1)),(1,true,.int .i64 a.2),(4,true,.bool false),(5,true,.int .i64 i)],[]⟩,fun i=>i<=a.1.length /\ ∀ x,x ∈ a.1.take i->x ≠ a.2,fun i=>a.1.length - i⟩) a n)) [] Tryz.func176 (by unfold Tryz.f176; rfl) (fun _=>⟨(),trivial⟩) ?_
 intro a _;obtain ⟨l,n⟩:=a;simp -implicitDefEqProofs [pQ,Con.fn,aC,ae]
 try dsimp only
 refine fun i hi hb _=>⟨fun hlt=>?_,fun hge=>?_⟩
 ·simp -implicitDefEqProofs [hlt,aq,D.asInt,and_assoc];refine ⟨fun h=>by rw [<- h]; exact List.getElem_mem hlt,fun h=>⟨by omega,by omega,fun _ _=>⟨i+1,by omega,by omega,fun x hx=>?_,by omega⟩⟩⟩
  rw [bg hlt] at hx;rcases List.mem_append.1 hx with h1 | h1
  ·exact hb x h1
  ·simp only [List.mem_singleton] at h1;subst h1; exact h
 ·rw [List.take_of_length_le hge] at hb;exact fun h=>hb n h rfl
def oD (l:List Bool) (ps:List Int):List Bool:=ps.foldl (fun l p=>l.set p.toNat true) l
theorem ON (ps:List Int):∀ l:List Bool,(oD l ps).length=l.length:=by
 induction ps with
 | nil=>intro l; rfl
 | cons p r ih=>intro l; show (oD (l.set p.toNat true) r).length=_; rw [ih]; simp
def jv (r:RepoD) (l:List Bool) (i:Nat):List Bool:=if isT l i then oD l (r.commits.getD i default).parents else l
def fW (r:RepoD):Nat->List Bool->List Bool
 | 0,l=>l
 | n+1,l=>fW r n (jv r l n)
def anc (r:RepoD) (a:Int):List Bool:=fW r (a+1).toNat ((List.replicate r.commits.length false).set a.toNat true)
theorem yx (r:RepoD):∀ (n:Nat) (l:List Bool),(fW r n l).length=l.length
 | 0,_=>rfl
 | n+1,l=>by
  show (fW r n (jv r l n)).length=_
  rw [yx r n];unfold jv;split
  ·rw [ON]
  ·rfl
theorem eH (r:RepoD) (a:Int):(anc r a).length=r.commits.length:=by unfold anc; rw [yx]; simp
def anO (r:RepoD) (a:Int):Inv:=⟨List Bool × Int,fun t=>⟨[(2,true,.ptr 10 0),(4,true,.nil),(5,true,.own 9 1 (be t.1)),(6,true,.int .i64 t.2)],[(10,cV r),(9,.own 4 1 true (be t.1))]⟩,fun t=>t.1.length=r.commits.length /\ -1<=t.2/\t.2 < r.commits.length/\fW r (t.2+1).toNat t.1=anc r a,fun t=>(t.2+1).toNat⟩
def anI (r:RepoD) (a:Int) (g:Nat):Inv:=⟨List Bool × Nat,fun t=>⟨[(2,true,.ptr 10 0),(4,true,.nil),(5,true,.own 9 1 (be t.1)),(6,true,.int .i64 g),(30,true,.sl true 1 (aj (r.commits.getD g default).parents)),(31,true,.int .i64 (r.commits.getD g default).parents.length),(32,true,.int .i64 t.2)],[(10,cV r),(9,.own 4 1 true (be t.1))]⟩,fun t=>t.1.length=r.commits.length/\g < r.commits.length/\t.2<=(r.commits.getD g default).parents.length/\fW r g (oD t.1 ((r.commits.getD g default).parents.drop t.2))=anc r a,fun t=>(r.commits.getD g default).parents.length - t.2⟩
def sf (r:RepoD) (a:Int) (n g:Nat):Inv:=if n=4 then anO r a else anI r a g
theorem Fe (r:RepoD) (a:Int) (g:Nat):sf r a 4 g=anO r a:=rfl
theorem Ff (r:RepoD) (a:Int) (g:Nat):sf r a 8 g=anI r a g:=rfl
def ph:Con:=.fn 41 (RepoD × Int) (fun a=>[bF a.1,.int .i64 a.2]) (fun a=>aF a.1=true/\0<=a.2/\a.2 < a.1.commits.length) (fun a=>.own 8 1 (be (anc a.1 a.2))) (fun a=>CP 8 (anc a.1 a.2))
theorem yy:Has Tryz.prog 130 ph:=by
 refine ag mixed bn HasL.nil [0,1,2,4,5,6,8,30,31,32] (fun a=>sf a.1 a.2) [] Tryz.func130 (by unfold Tryz.f130; rfl) (fun _=>⟨(),trivial⟩) ?_
 intro a ha;obtain ⟨r,n⟩:=a;obtain ⟨h1,h2,h3⟩:aF r=true/\0<=n/\n < r.commits.length:=ha;have h4:=fK h1;simp -implicitDefEqProofs [ph,Con.fn,aC,ae,Fe,Ff,anO,anI,bR]
 try dsimp only
 refine fun _=>⟨by omega,fun _=>⟨⟨h2,h3⟩,fun _ _=>⟨by omega,⟨(List.replicate r.commits.length false).set n.toNat true,n,⟨⟨by rw [jK]; exact (eJ _ _ _).symm,rfl⟩,by rw [jK]; exact eJ _ _ _⟩,by simp,by omega,h3,rfl⟩,fun l b g1 g2 g3 g4=>⟨fun hb=>⟨⟨hb,by omega⟩,fun _ _=>?_⟩,fun hb=>?_⟩⟩⟩⟩
 ·have hb1:b.toNat < l.length:=by omega
  have hb2:b.toNat < r.commits.length:=by omega
  obtain ⟨p1,p2,_⟩:=fL h1 hb2;have hT:isT l b.toNat=l[b.toNat]:=by simp -implicitDefEqProofs [isT,List.getD_eq_getElem?_getD,hb1]
  have hbb:(b+1).toNat=b.toNat+1:=by omega
  have hgd:r.commits.getD b.toNat default=r.commits[b.toNat]:=by simp -implicitDefEqProofs [List.getD_eq_getElem?_getD,hb2]
  rw [hbb] at g4;have g5:fW r b.toNat (jv r l b.toNat)=anc r n:=g4;unfold jv at g5;rw [hT,hgd] at g5;have e3:Option.map bm r.commits[b.toNat]? = some (bm r.commits[b.toNat]):=by simp -implicitDefEqProofs [hb2]
  have hgo:r.commits[b.toNat]?.getD default=r.commits[b.toNat]:=by simp -implicitDefEqProofs [hb2]
  simp -implicitDefEqProofs [hb1,cz,D.asBool,e3,bm,D.asRows,hb,show b < r.commits.length by omega]
  refine ⟨fun h _=>⟨b.toNat,?_⟩,fun h=>⟨⟨by omega,by omega⟩,fun _ _=>⟨l,b - 1,⟨⟨rfl,rfl⟩,rfl⟩,⟨g1,by omega,by omega,?_⟩,by omega⟩⟩⟩
  ·rw [if_pos h] at g5;rw [hgo];generalize r.commits[b.toNat]=c at *;refine ⟨⟨l,0,⟨⟨rfl,by omega,rfl,rfl,rfl⟩,rfl⟩,g1,hb2,Nat.zero_le _,g5⟩,fun m k m1 m2 m3 m4=>⟨fun hlt=>⟨hlt,fun _=>?_⟩,fun hge=>⟨⟨by omega,by omega⟩,fun _ _=>⟨m,b - 1,⟨⟨rfl,by omega⟩,rfl⟩,⟨m1,by omega,by omega,?_⟩,by omega⟩⟩⟩⟩
   ·have hp:=p2 c.parents[k] (List.getElem_mem hlt);have qt:Option.map aq c.parents[k]? = some (aq c.parents[k]):=by simp -implicitDefEqProofs [List.getElem?_eq_getElem hlt]
    simp -implicitDefEqProofs [qt,aq,D.asInt];refine ⟨⟨hp.1,by omega⟩,fun _ _=>⟨by omega,⟨by omega,by omega⟩,fun _ _=>⟨m.set c.parents[k].toNat true,k+1,⟨⟨(eJ _ _ _).symm,by omega⟩,eJ _ _ _⟩,⟨by simp -implicitDefEqProofs [m1],m2,by omega,?_⟩,by omega⟩⟩⟩
    rw [List.drop_eq_getElem_cons hlt] at m4;exact m4
   ·rw [List.drop_eq_nil_of_le hge] at m4;rw [show (b - 1+1).toNat=b.toNat by omega]
    exact m4
  ·rw [if_neg (by rw [h]; simp)] at g5
   rw [show (b - 1+1).toNat=b.toNat by omega]
   exact g5
 ·have hbb:(b+1).toNat=0:=by omega
  rw [hbb] at g4;have g5:l=anc r n:=g4;exact ⟨g5.symm,g5⟩
--TAB aC
--TAB aC
theorem A0 {l:List Bool} {p g:Nat} (b:Bool) (h:p ≠ g):isT (l.set p b) g=isT l g:=by
 unfold isT;rw [List.getD_eq_getElem?_getD,List.getD_eq_getElem?_getD,List.getElem?_set_ne h]
def alO (r:RepoD) (a:Int):Inv:=⟨List Bool × Int,fun t=>⟨[(2,true,.ptr 10 0),(4,true,.nil),(5,true,.own 9 1 (be t.1)),(6,true,.int .i64 t.2)],[(10,cV r),(9,.own 4 1 true (be t.1))]⟩,fun t=>t.1.length=r.commits.length /\ -1<=t.2/\t.2 < r.commits.length/\fW r (t.2+1).toNat t.1=anc r a,fun t=>(t.2+1).toNat⟩
def alI (r:RepoD) (a:Int) (g:Nat):Inv:=⟨List Bool × Nat,fun t=>⟨[(2,true,.ptr 10 0),(4,true,.nil),(5,true,.own 9 1 (be t.1)),(6,true,.int .i64 g),(7,true,.int .i64 t.2)],[(10,cV r),(9,.own 4 1 true (be t.1))]⟩,fun t=>t.1.length=r.commits.length/\g < r.commits.length/\t.2<=(r.commits.getD g default).parents.length/\(isT t.1 g=true->fW r g (oD t.1 ((r.commits.getD g default).parents.drop t.2))=anc r a)/\(isT t.1 g=false->fW r g t.1=anc r a),fun t=>(r.commits.getD g default).parents.length - t.2⟩
def alT (r:RepoD) (a:Int):Inv:=⟨Nat,fun i=>⟨[(2,true,.ptr 10 0),(4,true,.nil),(5,true,.own 9 1 (be (anc r a))),(8,true,.own 11 1 (aj (eu (anc r a) i))),(9,true,.int .i64 i)],[(10,cV r),(9,.own 4 1 true (be (anc r a))),(11,.own 3 1 true (aj (eu (anc r a) i)))]⟩,fun i=>i<=r.commits.length,fun i=>r.commits.length - i⟩
def m6 (r:RepoD) (a:Int) (n g:Nat):Inv:=if n=4 then alO r a else if n=7 then alI r a g else alT r a
theorem yr (r:RepoD) (a:Int) (g:Nat):m6 r a 4 g=alO r a:=rfl
theorem yu (r:RepoD) (a:Int) (g:Nat):m6 r a 7 g=alI r a g:=rfl
theorem yq (r:RepoD) (a:Int) (g:Nat):m6 r a 12 g=alT r a:=rfl
def tU:Con:=.fn 66 (RepoD × Int) (fun a=>[bF a.1,.int .i64 a.2]) (fun a=>aF a.1=true/\0<=a.2/\a.2 < a.1.commits.length) (fun a=>.own 8 1 (aj (ar (anc a.1 a.2)))) (fun a=>kT 8 (ar (anc a.1 a.2)))
theorem Lp:Has Tryz.prog 177 tU:=by
 refine ag mixed bn HasL.nil [0,1,2,4,5,6,7,8,9] (fun a=>m6 a.1 a.2) [] Tryz.func177 (by unfold Tryz.f177; rfl) (fun _=>⟨(),trivial⟩) ?_
 intro a ha;obtain ⟨r,n⟩:=a;obtain ⟨h1,h2,h3⟩:aF r=true/\0<=n/\n < r.commits.length:=ha;have h4:=fK h1;simp -implicitDefEqProofs [tU,Con.fn,aC,ae,yr,yu,yq,alO,alI,alT,bR]
 try dsimp only
 simp only [and_assoc,exists_eq_left,exists_and_left,RepoD.ex1,RepoD.eta];have hal:=eH r n;refine fun _=>⟨by omega,fun _=>⟨h2,h3,fun _ _=>⟨by omega,⟨(List.replicate r.commits.length false).set n.toNat true,by rw [jK]; exact (eJ _ _ _).symm,by rw [jK]; exact eJ _ _ _,by simp,by omega,h3,rfl⟩,fun l b g1 g2 g3 g4=>⟨fun hb=>⟨b.toNat,?_⟩,fun hb=>?_⟩⟩⟩⟩
 ·have hb1:b.toNat < l.length:=by omega
  have hb2:b.toNat < r.commits.length:=by omega
  obtain ⟨p1,p2,_⟩:=fL h1 hb2;have hgd:r.commits.getD b.toNat default=r.commits[b.toNat]:=by simp -implicitDefEqProofs [List.getD_eq_getElem?_getD,hb2]
  have hgo:r.commits[b.toNat]?.getD default=r.commits[b.toNat]:=by simp -implicitDefEqProofs [hb2]
  rw [show (b+1).toNat=b.toNat+1 by omega] at g4
  have g5:fW r b.toNat (jv r l b.toNat)=anc r n:=g4;unfold jv at g5;rw [hgd] at g5;have e3:Option.map bm r.commits[b.toNat]? = some (bm r.commits[b.toNat]):=by simp -implicitDefEqProofs [hb2]
  rw [hgo,e3];generalize r.commits[b.toNat]=c at *;refine ⟨by omega,trivial,g1,hb2,Nat.zero_le _,fun h=>?_,fun h=>?_,fun m k m1 m2 m3 m4 m5=>⟨hb2,fun _=>?_⟩⟩
  ·rw [if_pos h] at g5; exact g5
  ·rw [if_neg (by rw [h]; simp)] at g5; exact g5
  ·have hbm:b.toNat < m.length:=by omega
   have hT:isT m b.toNat=m[b.toNat]:=by simp -implicitDefEqProofs [isT,List.getD_eq_getElem?_getD,hbm]
   have e4:Option.map cz m[b.toNat]? = some (cz m[b.toNat]):=by simp -implicitDefEqProofs [hbm]
   have hmx:max b 0=b:=Int.max_eq_left hb;simp -implicitDefEqProofs [bm,D.asRows,e4,cz,hbm,hb2,hmx];refine fun _=>⟨fun hl2=>⟨fun hm=>⟨hl2,fun _=>?_⟩,fun hm=>⟨by omega,by omega,fun _ _=>⟨m1,by omega,by omega,m5 (hT.trans hm),by omega⟩⟩⟩,fun hge=>⟨by omega,by omega,fun _ _=>⟨m1,by omega,by omega,?_,by omega⟩⟩⟩
   ·have hp:=p2 c.parents[k] (List.getElem_mem hl2);have qt:Option.map aq c.parents[k]? = some (aq c.parents[k]):=by simp -implicitDefEqProofs [List.getElem?_eq_getElem hl2]
    simp -implicitDefEqProofs [qt,aq,D.asInt];have hst:isT (m.set c.parents[k].toNat true) b.toNat=true:=by rw [A0 _ (by omega)]; exact hT.trans hm
    refine ⟨hp.1,by omega,fun _ _=>⟨by omega,by omega,by omega,fun _ _=>⟨m.set c.parents[k].toNat true,(eJ _ _ _).symm,k+1,by omega,eJ _ _ _,by simp -implicitDefEqProofs [m1],by omega,fun _=>?_,fun h=>?_,by omega⟩⟩⟩
    ·have:=m4 (hT.trans hm);rw [List.drop_eq_getElem_cons hl2] at this;exact this
    ·rw [hst] at h; cases h
   ·cases hm:m[b.toNat] with
    | true =>
     have:=m4 (hT.trans hm);rw [List.drop_eq_nil_of_le hge] at this;exact this
    | false=>exact m5 (hT.trans hm)
 ·rw [show (b+1).toNat=0 by omega] at g4
  have g5:l=anc r n:=g4;refine ⟨g5.symm,⟨0,rfl,rfl,g5,rfl,Nat.zero_le _⟩,fun i hi _=>⟨fun hlt=>?_,fun hge=>?_⟩⟩
  ·have hl:=oc (anc r n) i;have hi:isT (anc r n) i=(anc r n)[i]:=by simp -implicitDefEqProofs [isT,List.getD_eq_getElem?_getD,hlt]
   rw [hal] at hlt;simp -implicitDefEqProofs [hal,hlt,cz,D.asBool,and_assoc];refine ⟨fun h=>?_,fun h=>?_⟩
   ·have e:=wZ (hi.trans h);exact ⟨by omega,by omega,by omega,by omega,fun _ _=>⟨i+1,by rw [e]; simp -implicitDefEqProofs [aj,aq],by omega,by rw [e]; simp -implicitDefEqProofs [aj,aq],by omega,by omega⟩⟩
   ·have e:=w5 (hi.trans h);exact ⟨by omega,by omega,fun _ _=>⟨i+1,e,by omega,e.symm,by omega,by omega⟩⟩
  ·rw [hal] at hge;have:i=r.commits.length:=by omega
   subst this;unfold ar;rw [hal];exact ⟨rfl,rfl⟩
theorem Ak (p:List Int):∀ x ∈ aj p,∀ d ∈ x,match d with | .sl _ _ _=>False | _=>True:=by
 intro x hx d hd;simp only [aj,List.mem_map] at hx;obtain ⟨i,_,rfl⟩:=hx;simp only [aq,List.mem_singleton] at hd;subst hd; trivial
theorem Aj (p:List HeadD):∀ x ∈ ah p,∀ d ∈ x,match d with | .sl _ _ _=>False | _=>True:=by
 intro x hx d hd;simp only [ah,List.mem_map] at hx;obtain ⟨i,_,rfl⟩:=hx;simp only [bw,List.mem_cons,List.not_mem_nil,or_false] at hd;rcases hd with rfl | rfl <;> trivial
def tT:Con:=.fn 13 CommitD (fun f=>[.agg [.sl true 1 (aj f.parents),.str f.who,.sl true 2 (ac f.tree)]]) (fun f=>lP f) (fun f=>.agg [.own 8 1 (aj f.parents),.str f.who,.own 9 2 (ac f.tree)]) (fun f=>kT 8 f.parents++fF 9 f.tree)
theorem Ln:Has Tryz.prog 175 tT:=by
 refine ag mixed ak (HasL.cons mp HasL.nil) [0,1,2] ((fun a n (_:Nat)=>(fun _=>an) a n)) [] Tryz.func175 (by unfold Tryz.f175; rfl) (fun _=>⟨(),trivial⟩) ?_
 intro f hf;obtain ⟨p,x,t⟩:=f;obtain ⟨h1,h2,h3⟩:p.length<=1048576/\t.length<=1048576 /\ ∀ g ∈ t,g.text.length<=1048576:=hf;simp -implicitDefEqProofs [tT,jE,Con.fn,ae]
 try dsimp only
 exact ⟨Ak p,by omega,h2,h3⟩
abbrev lD:Blk:=.box 27 [.nil,.nil]
def BH (r:RepoD):Inv:=⟨Nat,fun i=>⟨[(1,true,.ptr 12 0),(2,true,.ptr 10 0),(3,true,.ptr 11 0),(4,true,.int .i64 i)],[(12,cV r),(10,lD),(11,.box 27 [.own 13 3 (ap (r.commits.take i)),.own 14 2 (ah r.heads)]),(13,.own 87 3 true (ap (r.commits.take i))),(14,.own 89 2 true (ah r.heads))]⟩,fun i=>i<=r.commits.length,fun i=>r.commits.length - i⟩
def kt:Con:=.fn 29 RepoD (fun r=>[bF r]) dC (fun r=>.agg [.own 8 3 (ap r.commits),.own 9 2 (ah r.heads)]) (fun r=>iO 8 r.commits++gB 9 r.heads)
theorem nX:Has Tryz.prog 145 kt:=by
 refine ag mixed ak (HasL.cons Ln HasL.nil) [0,1,2,3,4] ((fun a n (_:Nat)=>(fun r _=>BH r) a n)) [25,26] Tryz.func145 (by unfold Tryz.f145; rfl) (fun _=>⟨(),trivial⟩) ?_
 intro (r:RepoD) hr;obtain ⟨h1,h2,h3⟩:r.commits.length<=1048576/\(∀ c ∈ r.commits,lP c)/\r.heads.length<=1048576:=hr;simp -implicitDefEqProofs [kt,tT,Con.fn,ae,BH,bR]
 try dsimp only
 refine ⟨Aj r.heads,by omega,⟨0,⟨rfl,.inl rfl⟩,Nat.zero_le _⟩,fun i hi _=>⟨fun hlt=>?_,fun hge=>?_⟩⟩
 ·have e:r.commits.take (i+1)=r.commits.take i++[r.commits[i]]:=bg hlt;have hc:=h2 _ (List.getElem_mem hlt);simp -implicitDefEqProofs [hlt,bm,D.asStr,D.asRows,and_assoc];refine ⟨hc,by omega,by omega,by omega,by omega,fun _ _=>⟨i+1,by omega,?_,?_,by omega,by omega⟩⟩
  ·rw [e,je]
  ·rw [e,je]
 ·rw [List.take_of_length_le hge]; exact ⟨rfl,rfl⟩
def cG (n:Str) (a:Int) (acc:List HeadD × Bool) (g:HeadD):List HeadD × Bool :=
 if acc.2=false/\Go.Op.bytesLess g.name n=false then (if g.name=n then (acc.1++[⟨n,a⟩],true) else (acc.1++[⟨n,a⟩]++[g],true))
 else (if g.name=n then acc else (acc.1++[g],acc.2))
def hL (n:Str) (a:Int) (l:List HeadD):List HeadD × Bool:=l.foldl (cG n a) ([],false)
def bG (l:List HeadD) (n:Str) (a:Int):List HeadD:=if (hL n a l).2 then (hL n a l).1 else (hL n a l).1++[⟨n,a⟩]
theorem IA {n:Str} {a:Int} {t:List HeadD} {i:Nat} (h:i < t.length):hL n a (t.take (i+1))=cG n a (hL n a (t.take i)) t[i]:=by
 unfold hL;rw [bg h,List.foldl_append]; rfl
theorem IB (n:Str) (a:Int) (acc:List HeadD × Bool) (g:HeadD):(cG n a acc g).1.length+acc.2.toNat<=acc.1.length+(cG n a acc g).2.toNat+1:=by
 unfold cG;split
 ·rename_i h;rw [h.1];split <;> simp <;> omega
 ·split <;> simp <;> omega
theorem Iz (n:Str) (a:Int) (t:List HeadD):(hL n a t).1.length<=t.length+(hL n a t).2.toNat:=by
 have:∀ (t:List HeadD) (acc:List HeadD × Bool),(t.foldl (cG n a) acc).1.length+acc.2.toNat<=acc.1.length+t.length+(t.foldl (cG n a) acc).2.toNat:=by
  intro t
  induction t with
  | nil=>intro acc; simp
  | cons g r ih =>
   intro acc;have h1:=ih (cG n a acc g);have h2:=IB n a acc g;simp only [List.foldl_cons,List.length_cons];omega
 have:=this t ([],false)
 simpa [hL] using this
def BI (r:RepoD) (n:Str) (a:Int):Inv:=⟨Nat,fun i=>⟨[(1,true,.str n),(2,true,.int .i64 a),(3,true,.ptr 12 0),(6,true,.ptr 10 0),(7,true,.ptr 11 0),(8,true,.bool (hL n a (r.heads.take i)).2),(9,true,.int .i64 i)],[(12,cV r),(10,lD),(11,.box 27 [.sl true 3 (ap r.commits),.own 14 2 (ah (hL n a (r.heads.take i)).1)]),(14,.own 89 2 true (ah (hL n a (r.heads.take i)).1))]⟩,fun i=>i<=r.heads.length,fun i=>r.heads.length - i⟩
def nu:Con:=.fn 69 (RepoD × Str × Int) (fun a=>[bF a.1,.str a.2.1,.int .i64 a.2.2]) (fun a=>a.1.heads.length<=1048576) (fun a=>.agg [.sl true 3 (ap a.1.commits),.own 9 2 (ah (bG a.1.heads a.2.1 a.2.2))]) (fun a=>gB 9 (bG a.1.heads a.2.1 a.2.2))
theorem wS:Has Tryz.prog 144 nu:=by
 refine ag mixed ak HasL.nil [0,1,2,3,6,7,8,9] ((fun a n (_:Nat)=>(fun a _=>BI a.1 a.2.1 a.2.2) a n)) [] Tryz.func144 (by unfold Tryz.f144; rfl) (fun _=>⟨(),trivial⟩) ?_
 intro a ha;obtain ⟨r,n,a⟩:=a;replace ha:r.heads.length<=1048576:=ha;have a0:hL n a []=([],false):=rfl;have a7:∀ i,(hL n a (r.heads.take i)).1.length<=1048577:=fun i=>by
  have h1:=Iz n a (r.heads.take i);have h2:=Bool.toNat_le (hL n a (r.heads.take i)).2;have h3:(r.heads.take i).length<=r.heads.length:=by simp; omega
  omega
 simp -implicitDefEqProofs [nu,Con.fn,ae,BI,bR]
 try dsimp only
 have b1:∀ (X:List HeadD) (g:HeadD),ah X++[[D.str n,D.int .i64 a],[D.str g.name,D.int .i64 g.at_]]=ah (X++[⟨n,a⟩]++[g]):=fun X g=>by simp -implicitDefEqProofs [ah,bw]
 have b2:∀ (X:List HeadD) (g:HeadD),ah X++[[D.str g.name,D.int .i64 g.at_]]=ah (X++[g]):=fun X g=>by simp -implicitDefEqProofs [ah,bw]
 have b3:∀ (X:List HeadD),ah X++[[D.str n,D.int .i64 a]]=ah (X++[⟨n,a⟩]):=fun X=>by simp -implicitDefEqProofs [ah,bw]
 refine ⟨⟨0,by simp -implicitDefEqProofs [a0]⟩,fun i hi _=>⟨fun hlt=>?_,fun hge=>?_⟩⟩
 ·have g:=IA (n:=n) (a:=a) hlt;have gl:=a7 i;generalize hX:hL n a (r.heads.take i)=X at g gl ⊢;obtain ⟨X,q⟩:=X;simp -implicitDefEqProofs [hlt,bw,D.asStr,D.asInt,and_assoc];rw [b1,b2,b3];have gl:X.length<=1048577:=gl;have fin:∀ (Y:List HeadD) (b:Bool),hL n a (r.heads.take (i+1))=(Y,b) -> ∀ c,b=c -> ∃ t',(hL n a (r.heads.take t')).2=c/\(t':Int)=i+1/\ah (hL n a (r.heads.take t')).1=ah Y/\ah Y=ah (hL n a (r.heads.take t')).1/\t'<=r.heads.length/\r.heads.length - t' < r.heads.length - i:=fun Y b h c hc=>⟨i+1,by rw [h]; exact hc,by omega,by rw [h],by rw [h],by omega,by omega⟩
  have fin2:∀ (Y:List HeadD) (b:Bool),hL n a (r.heads.take (i+1))=(Y,b) -> ∀ c,b=c -> ∃ t',(hL n a (r.heads.take t')).2=c/\(t':Int)=i+1/\(hL n a (r.heads.take t')).1=Y/\Y=(hL n a (r.heads.take t')).1/\t'<=r.heads.length/\r.heads.length - t' < r.heads.length - i:=fun Y b h c hc=>⟨i+1,by rw [h]; exact hc,by omega,by rw [h],by rw [h],by omega,by omega⟩
  refine ⟨fun hq=>⟨fun h=>⟨by omega,by omega,by omega,by omega,fun _ _=>fin _ q ?_ _ rfl⟩,fun h=>⟨by omega,by omega,fun _ _=>fin2 _ q ?_ _ rfl⟩⟩,
   fun hq=>⟨fun hb=>⟨by omega,by omega,fun h=>⟨by omega,by omega,by omega,by omega,fun _ _=>fin _ true ?_ _ rfl⟩,fun h=>⟨by omega,by omega,fun _ _=>fin _ true ?_ _ rfl⟩⟩,
    fun hb=>⟨fun h=>⟨by omega,by omega,by omega,by omega,fun _ _=>fin _ q ?_ _ rfl⟩,fun h=>⟨by omega,by omega,fun _ _=>fin2 _ q ?_ _ rfl⟩⟩⟩⟩
  all_goals rw [g]; unfold cG
  ·rw [if_neg (by simp -implicitDefEqProofs [hq]),if_neg h]
  ·rw [if_neg (by simp -implicitDefEqProofs [hq]),if_pos h]
  ·rw [if_pos ⟨hq,hb⟩,if_neg h]
  ·rw [if_pos ⟨hq,hb⟩,if_pos h]
  ·rw [if_neg (by simp -implicitDefEqProofs [hb]),if_neg h]
  ·rw [if_neg (by simp -implicitDefEqProofs [hb]),if_pos h]
 ·rw [List.take_of_length_le hge];have gl:=a7 r.heads.length;rw [List.take_length] at gl;rw [b3];refine ⟨fun h=>?_,fun h=>⟨by omega,?_⟩⟩
  ·unfold bG; rw [if_pos h]; exact ⟨rfl,rfl⟩
  ·unfold bG; rw [if_neg (by simp -implicitDefEqProofs [h])]; exact ⟨rfl,rfl⟩
def cf (r:RepoD) (n:Str) (c:CommitD):RepoD:=⟨r.commits++[c],bG r.heads n r.commits.length⟩
def nt:Con:=.fn 24 (RepoD × Str × CommitD) (fun a=>[bF a.1,.str a.2.1,.agg [.sl true 1 (aj a.2.2.parents),.str a.2.2.who,.sl true 2 (ac a.2.2.tree)]]) (fun a=>a.1.commits.length<=1048576/\a.1.heads.length<=1048576) (fun a=>.agg [.sl false 3 (ap (cf a.1 a.2.1 a.2.2).commits),.sl false 2 (ah (cf a.1 a.2.1 a.2.2).heads)]) (fun _=>[])
theorem wR:Has Tryz.prog 174 nt:=by
 refine ag mixed ak (HasL.cons wS HasL.nil) [0,1,2,3,5,6,7] ((fun a n (_:Nat)=>(fun _=>an) a n)) [4109] Tryz.func174 (by unfold Tryz.f174; rfl) (fun _=>⟨(),trivial⟩) ?_
 intro a ha;obtain ⟨r,n,c⟩:=a;obtain ⟨h1,h2⟩:r.commits.length<=1048576/\r.heads.length<=1048576:=ha;simp -implicitDefEqProofs [nt,nu,Con.fn,ae,bR]
 try dsimp only
 exact ⟨by omega,by omega,fun _=>⟨⟨r.commits++[c],r.heads⟩,n,r.commits.length,⟨⟨by simp -implicitDefEqProofs [ap,bm],rfl⟩,rfl,rfl⟩,h2,rfl,rfl⟩⟩
def cS (r:RepoD) (n:Str) (a:Int):RepoD × Bool:=if az r then (if 0<=atL r.heads n \/ az ⟨r.commits,bG r.heads n a⟩=false then (r,false) else (⟨r.commits,bG r.heads n a⟩,true)) else (⟨[],[]⟩,false)
def uC:Con:=.fn 30 (RepoD × Str × Int) (fun a=>[bF a.1,.str a.2.1,.int .i64 a.2.2]) (fun a=>dC a.1) (fun a=>.tup [.agg [.sl false 3 (ap (cS a.1 a.2.1 a.2.2).1.commits),.sl false 2 (ah (cS a.1 a.2.1 a.2.2).1.heads)],.bool (cS a.1 a.2.1 a.2.2).2]) (fun _=>[])
theorem O8:Has Tryz.prog 89 uC:=by
 refine ag mixed ak (HasL.cons kP (HasL.cons nX (HasL.cons wS (HasL.cons jQ HasL.nil)))) [0,1,2,3,6,7,8] ((fun a n (_:Nat)=>(fun _=>an) a n)) [] Tryz.func89 (by unfold Tryz.f89; rfl) (fun _=>⟨(),trivial⟩) ?_
 intro a ha;obtain ⟨r,n,at_⟩:=a;replace ha:dC r:=ha;have ha2:=ha;obtain ⟨h1,h2,h3⟩:r.commits.length<=1048576/\(∀ c ∈ r.commits,lP c)/\r.heads.length<=1048576:=ha2;simp -implicitDefEqProofs [uC,i6,kt,nu,iv,Con.fn,ae,bR]
 try dsimp only
 have e0:az r=false->cS r n at_=(⟨[],[]⟩,false):=fun h=>by unfold cS; rw [if_neg (by simp -implicitDefEqProofs [h])]
 have e1:az r=true->(0<=atL r.heads n \/ az ⟨r.commits,bG r.heads n at_⟩=false)->cS r n at_=(r,false):=fun h h2=>by unfold cS; rw [if_pos h,if_pos h2]
 have e2:az r=true -> ¬ (0<=atL r.heads n \/ az ⟨r.commits,bG r.heads n at_⟩=false)->cS r n at_=(⟨r.commits,bG r.heads n at_⟩,true):=fun h h2=>by unfold cS; rw [if_pos h,if_neg h2]
 refine ⟨by omega,fun h=>by rw [e0 h]; exact ⟨⟨rfl,rfl⟩,rfl⟩,fun h=>⟨ha,r,n,at_,⟨⟨rfl,rfl⟩,rfl,rfl⟩,h3,r,n,⟨⟨rfl,rfl⟩,rfl⟩,fun hq=>⟨ha,by rw [e1 h (.inl hq)]; exact ⟨⟨rfl,rfl⟩,rfl⟩⟩,fun hq=>⟨by omega,fun ho=>⟨ha,by rw [e1 h (.inr ho)]; exact ⟨⟨rfl,rfl⟩,rfl⟩⟩,fun ho=>?_⟩⟩⟩
 rw [e2 h (by rintro (q | q); omega; rw [ho] at q; cases q)]; exact ⟨⟨rfl,rfl⟩,rfl⟩
def ix (r:RepoD) (n who:Str) (t:List FileD):CommitD:=⟨if 0<=atL r.heads n then [atL r.heads n] else [],who,t⟩
def dl (r:RepoD) (n who:Str) (t:List FileD):RepoD × Bool:=if az r then (if az (cf r n (ix r n who t)) then (cf r n (ix r n who t),true) else (r,false)) else (⟨[],[]⟩,false)
def uE:Con:=.fn 40 (RepoD × Str × Str × List FileD) (fun a=>[bF a.1,.str a.2.1,.str a.2.2.1,.sl true 2 (ac a.2.2.2)]) (fun a=>dC a.1/\a.2.2.2.length<=1048576 /\ ∀ f ∈ a.2.2.2,f.text.length<=1048576) (fun a=>.tup [.agg [.sl false 3 (ap (dl a.1 a.2.1 a.2.2.1 a.2.2.2).1.commits),.sl false 2 (ah (dl a.1 a.2.1 a.2.2.1 a.2.2.2).1.heads)],.bool (dl a.1 a.2.1 a.2.2.1 a.2.2.2).2]) (fun _=>[])
theorem Pe:Has Tryz.prog 140 uE:=by
 refine ag mixed ak (HasL.cons kP (HasL.cons mp (HasL.cons jQ (HasL.cons nX (HasL.cons wR HasL.nil))))) [0,1,2,3,4,8,9,10,11] ((fun a n (_:Nat)=>(fun _=>an) a n)) [] Tryz.func140 (by unfold Tryz.f140; rfl) (fun _=>⟨(),trivial⟩) ?_
 intro a ha;obtain ⟨r,n,who,t⟩:=a;obtain ⟨ha,h4,h5⟩:dC r/\t.length<=1048576 /\ ∀ f ∈ t,f.text.length<=1048576:=ha;have ha2:=ha;obtain ⟨h1,h2,h3⟩:r.commits.length<=1048576/\(∀ c ∈ r.commits,lP c)/\r.heads.length<=1048576:=ha2;simp -implicitDefEqProofs [uE,i6,kt,nt,iv,jE,Con.fn,ae,bR]
 try dsimp only
 have e0:az r=false->dl r n who t=(⟨[],[]⟩,false):=fun h=>by unfold dl; rw [if_neg (by simp -implicitDefEqProofs [h])]
 have e1:az r=true->az (cf r n (ix r n who t))=false->dl r n who t=(r,false):=fun h h2=>by unfold dl; rw [if_pos h,if_neg (by simp -implicitDefEqProofs [h2])]
 have e2:az r=true->az (cf r n (ix r n who t))=true->dl r n who t=(cf r n (ix r n who t),true):=fun h h2=>by unfold dl; rw [if_pos h,if_pos h2]
 have hl:∀ c,(cf r n c).commits.length<=1073741824:=fun c=>by simp -implicitDefEqProofs [cf]; omega
 refine ⟨by omega,fun h=>by rw [e0 h]; exact ⟨⟨rfl,rfl⟩,rfl⟩,fun h=>⟨⟨h4,h5⟩,r,n,⟨⟨rfl,rfl⟩,rfl⟩,fun hq=>?_,fun hq=>?_⟩⟩
 ·have hc:ix r n who t=⟨[atL r.heads n],who,t⟩:=by unfold ix; rw [if_pos hq]
  rw [hc] at e1 e2;refine ⟨r,n,⟨⟨rfl,rfl⟩,rfl⟩,ha,r,n,⟨[atL r.heads n],who,t⟩,⟨⟨rfl,rfl⟩,rfl,rfl,rfl,rfl⟩,⟨h1,h3⟩,hl _,fun ho=>⟨ha,by rw [e1 h ho]; exact ⟨⟨rfl,rfl⟩,rfl⟩⟩,fun ho=>by rw [e2 h ho]; exact ⟨⟨rfl,rfl⟩,rfl⟩⟩
 ·have hc:ix r n who t=⟨[],who,t⟩:=by unfold ix; rw [if_neg (by omega)]
  rw [hc] at e1 e2;refine ⟨ha,r,n,⟨[],who,t⟩,⟨⟨rfl,rfl⟩,rfl,rfl,rfl,rfl⟩,⟨h1,h3⟩,hl _,fun ho=>⟨ha,by rw [e1 h ho]; exact ⟨⟨rfl,rfl⟩,rfl⟩⟩,fun ho=>by rw [e2 h ho]; exact ⟨⟨rfl,rfl⟩,rfl⟩⟩
end Vx
end Go.Proofs.YtonkagjdfpacmaaGreatDoor
