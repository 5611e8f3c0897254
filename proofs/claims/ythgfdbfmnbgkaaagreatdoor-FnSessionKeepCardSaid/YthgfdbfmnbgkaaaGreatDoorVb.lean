/-
  Joined by program (merge.py): EngJ2, EngJ3, EngJ4, EngK, EngM, EngN, EngO, EngP, EngQ, EngR, EngS, EngS2, EngU, EngU2, EngU7, EngU3, EngU5, EngU6, EngV, EngU4. It shows what the single texts show; conditions: none but those of each lemma.
-/
import Derived.Test.YthgfdbfmnbgkaaaGreatDoorVa
import Derived.Conc.MuLone
import Derived.Deep.AppendSrc
set_option linter.unusedVariables false
set_option linter.unusedSimpArgs false
set_option linter.unusedSectionVars false
namespace Go.Proofs.YthgfdbfmnbgkaaaGreatDoor
namespace Vx
open Go.RowKit
structure Rn (m m2:Nat->Option Blk) (ρ:List (Nat × (Nat ⊕ Nat))):Prop where
 has:∀ p ∈ ρ,ai ρ p.1=some p.2/\(m2 p.1).isSome=true
 own:∀ i e k d R,m2 i=some (.own e k d R)->(∃ h d',ai ρ i=some (.inl h)/\m h=some (.own e k d' R)/\(d=true->d'=true)) \/ (ai ρ i=some (.inr k)/\0 < k/\R=[])
 box:∀ i ty xs,m2 i=some (.box ty xs) -> ∃ h ys q,ai ρ i=some (.inl h)/\m h=some (.box ty ys)/\jx xs ys=some q/\q.p /\ ∀ p ∈ q.hs,p ∈ ρ
 dead:∀ i,m2 i ≠ some .dead
 inj:∀ i j h,(m2 i).isSome=true->(m2 j).isSome=true->ai ρ i=some (.inl h)->ai ρ j=some (.inl h)->i=j
def cJ (β:Nat->Value) (ρ:List (Nat × (Nat ⊕ Nat))) (i:Nat):Value :=
 match ai ρ i with | some (.inl h)=>β h | _=>.slice none 0 0
def eQ (m2:Nat->Option Blk) (fp:Nat->List (Nat × Nat)) (ρ:List (Nat × (Nat ⊕ Nat))) (i:Nat):List (Nat × Nat) :=
 match ai ρ i with | some (.inl h)=>(match m2 i with | some (.own _ _ false _)=>[] | _=>fp h) | _=>[]
section
variable {w:World} {c:Cx} {m m2:Nat->Option Blk} {β:Nat->Value} {ρ:List (Nat × (Nat ⊕ Nat))} (N:Rn m m2 ρ)
include N
theorem Rn.lim {z} (h:Lim m β z):Lim m2 (cJ β ρ) z:=by
 refine ⟨?_,?_⟩
 ·rintro ⟨i,ty,xs,hi,hb⟩;obtain ⟨g,ys,q,h1,h2,_⟩:=N.box i ty xs hi;exact h.1 ⟨g,ty,ys,h2,by simpa [cJ,h1] using hb⟩
 ·intro i e k d R n cc hi hb;rcases N.own i e k d R hi with ⟨g,d',h1,h2,_⟩ | ⟨h1,_⟩
  ·exact h.2 g e k d' R n cc h2 (by simpa [cJ,h1] using hb)
  ·simp [cJ,h1] at hb
theorem Rn.vw {e ds vs} (h:Vw w m β c e ds vs):Vw w m2 (cJ β ρ) c e ds vs:=by
 obtain ⟨f,hr,hl⟩:=h;exact ⟨f,hr,fun z hz=>⟨N.lim (hl z hz).1,(hl z hz).2⟩⟩
theorem Vw.weak {w:World} {m:Nat->Option Blk} {β:Nat->Value} {c:Cx} {e ds vs} (h:Vw w m β c e ds vs):Vw w m β c false ds vs:=by
 obtain ⟨f,hr,hl⟩:=h;refine ⟨f,hr,fun z hz=>⟨(hl z hz).1,?_⟩⟩;rcases (hl z hz).2 with q | ⟨_,q⟩
 ·exact .inl q
 ·exact .inr ⟨rfl,q⟩
theorem CY {x y v q} (hq:ot x y=some q) (hp:q.p) (hh:∀ p ∈ q.hs,p ∈ ρ) (hy:RelL w m β c [y] [v]):RelL w m2 (cJ β ρ) c [x] [v]:=by
 have nilv:∀ k,∃ e,Vw w m2 (cJ β ρ) c false [.sl e k []] [.slice none 0 0]:=fun k=>⟨0,[],.sl0 (by unfold maxLen; omega) (by simp) .nil,by simp⟩
 unfold ot at hq;split at hq <;> try (cases hq; done)
 ·cases hq; obtain ⟨rfl,rfl⟩:=hp; cases hy; exact .int .lnil
 ·cases hq; cases hp; cases hy; exact .bool .lnil
 ·cases hq; cases hp
  cases hy with
  | str h1 _=>exact .str h1 .lnil
 ·cases hq; cases hp
  cases hy with
  | raw h1 _=>exact .raw h1 .lnil
 ·cases hq;cases hy with
  | nil _=>exact .nil .lnil
 ·cases hq; cases hp
  cases hy with
  | nil _=>exact .sl ⟨0,[],.sl0 (by unfold maxLen; omega) (by simp) .nil,by simp⟩ .lnil
 ·cases hq; obtain ⟨rfl,rfl⟩:=hp
  cases hy with
  | sl h1 _=>obtain ⟨t,h1⟩:=h1; exact .sl ⟨t,N.vw h1⟩ .lnil
 ·cases hq; obtain ⟨rfl,rfl⟩:=hp
  cases hy with
  | sl h1 _=>obtain ⟨t,h1⟩:=h1; exact .sl ⟨t,Vw.weak N (N.vw h1)⟩ .lnil
 ·cases hq; obtain ⟨rfl,rfl⟩:=hp
  cases hy with
  | own _ h1 _ _=>obtain ⟨t,h1⟩:=h1; exact .sl ⟨t,N.vw h1⟩ .lnil
 ·cases hq; obtain ⟨rfl,rfl⟩:=hp
  cases hy with
  | sub _ h1 _ _=>obtain ⟨t,h1⟩:=h1; exact .sl ⟨t,N.vw h1⟩ .lnil
 ·rename_i i k r h k' r';cases hq; obtain ⟨rfl,rfl⟩:=hp
  obtain ⟨g1,g2⟩:=N.has _ (hh (i,.inl h) (by simp))
  simp only at g1 g2;cases hy with
  | own _ h1 h3 _ =>
   obtain ⟨t,h1⟩:=h1;refine .own g2 ⟨t,N.vw h1⟩ (fun e k' d R hm=>?_) .lnil;rcases N.own i e k' d R hm with ⟨g,d',q1,q2,_⟩ | ⟨q1,_⟩
   ·rw [g1] at q1;cases q1;have:=h3 _ _ _ _ q2;exact ⟨by simp [cJ,g1,this.1],this.2⟩
   ·rw [g1] at q1; cases q1
 ·rename_i i k r;cases hq; cases hp
  obtain ⟨g1,g2⟩:=N.has _ (hh (i,.inr k) (by simp))
  simp only at g1 g2;cases hy with
  | nil _ =>
   refine .own g2 (nilv k) (fun e k' d R hm=>?_) .lnil;rcases N.own i e k' d R hm with ⟨g,d',q1,q2,_⟩ | ⟨q1,_⟩
   ·rw [g1] at q1; cases q1
   ·rw [g1] at q1;cases q1;exact ⟨by simp [cJ,g1],rfl⟩
 ·rename_i i o h o';cases hq; cases hp
  obtain ⟨g1,g2⟩:=N.has _ (hh (i,.inl h) (by simp))
  simp only at g1 g2;cases hy with
  | ptr h1 h2 _=>exact .ptr g2 (by simp [cJ,g1,h2]) .lnil
 ·rename_i i h;cases hq; cases hp
  obtain ⟨g1,g2⟩:=N.has _ (hh (i,.inl h) (by simp))
  simp only at g1 g2;cases hy with
  | slf h1 _=>exact .slf (h1.imp id fun ⟨_,b,q2,q3⟩=>⟨g2,b,by simp [cJ,g1,q2],q3⟩) .lnil
 ·rename_i i h;cases hq; cases hp
  obtain ⟨g1,g2⟩:=N.has _ (hh (i,.inl h) (by simp))
  simp only at g1 g2;cases hy with
  | ptr _ h2 _=>exact .slf (.inr ⟨g2,_,by simp [cJ,g1,h2],rfl⟩) .lnil
 ·cases hq;cases hy with
  | raw _ _=>exact .slf (.inl rfl) .lnil
 ·exact .junk .lnil
theorem xq:∀ {xs ys vs q},jx xs ys=some q->q.p->(∀ p ∈ q.hs,p ∈ ρ)->RelL w m β c ys vs->RelL w m2 (cJ β ρ) c xs vs:=by
 intro xs
 induction xs with
 | nil =>
  intro ys vs q hq hp hh hy;cases ys with
  | nil=>cases hy; exact .lnil
  | cons y ys=>cases hq
 | cons x xs ih =>
  intro ys vs q hq hp hh hy;cases ys with
  | nil=>cases hq
  | cons y ys =>
   obtain ⟨v,vs',rfl,h1,h2⟩:=hy.uncons;unfold jx at hq;split at hq
   ·rename_i a b ha hb;cases hq;exact (CY N ha hp.1 (fun p hp=>hh p (List.mem_append_left _ hp)) h1).append (ih hb hp.2 (fun p hp=>hh p (List.mem_append_right _ hp)) h2)
   ·cases hq
end
section
variable {w:World} {c:Cx} {m m2:Nat->Option Blk} {β:Nat->Value} {ρ:List (Nat × (Nat ⊕ Nat))} (N:Rn m m2 ρ)
include N
theorem C0 {x y v q} (hq:oz x y=some q) (hp:q.p) (hh:∀ p ∈ q.hs,p ∈ ρ) (hy:RelL w m β c [y] [v]):RelL w m2 (cJ β ρ) c [x] [v]:=by
 unfold oz at hq;split at hq
 ·cases hy with
  | agg h1 h2 _=>exact .agg (xq N hq hp hh h1) h2 .lnil
 ·split at hq
  ·rename_i hfg;subst hfg;cases hy with
   | clo h1 _=>exact .clo (xq N hq hp hh h1) .lnil
  ·cases hq
 ·exact CY N hq hp hh hy
theorem NL:∀ {xs ys vs q},oA xs ys=some q->q.p->(∀ p ∈ q.hs,p ∈ ρ)->RelL w m β c ys vs->RelL w m2 (cJ β ρ) c xs vs:=by
 intro xs
 induction xs with
 | nil =>
  intro ys vs q hq hp hh hy;cases ys with
  | nil=>cases hy; exact .lnil
  | cons y ys=>cases hq
 | cons x xs ih =>
  intro ys vs q hq hp hh hy;cases ys with
  | nil=>cases hq
  | cons y ys =>
   obtain ⟨v,vs',rfl,h1,h2⟩:=hy.uncons;unfold oA at hq;split at hq
   ·rename_i a b ha hb;cases hq;exact (C0 N ha hp.1 (fun p hp=>hh p (List.mem_append_left _ hp)) h1).append (ih hb hp.2 (fun p hp=>hh p (List.mem_append_right _ hp)) h2)
   ·cases hq
theorem NK {x y v q} (hq:mD x y=some q) (hp:q.p) (hh:∀ p ∈ q.hs,p ∈ ρ) (hy:RelL w m β c [y] [v]):RelL w m2 (cJ β ρ) c [x] [v]:=by
 unfold mD at hq;split at hq
 ·cases hy with
  | tup h1 _=>exact .tup (NL N hq hp hh h1) .lnil
 ·exact C0 N hq hp hh hy
end
theorem NM {m2:Nat->Option Blk} {fp:Nat->List (Nat × Nat)} {ρ:List (Nat × (Nat ⊕ Nat))} {i h:Nat} (hi:ai ρ i=some (.inl h)):(eQ m2 fp ρ i).Sublist (fp h):=by
 unfold eQ;rw [hi];simp only [];split
 ·exact List.nil_sublist _
 ·exact List.Sublist.refl _
theorem xY {m2:Nat->Option Blk} {β:Nat->Value} {fp:Nat->List (Nat × Nat)} {ρ:List (Nat × (Nat ⊕ Nat))} {i h:Nat} {b b0:Blk} (hi:ai ρ i=some (.inl h)) (hb:∀ f,Ob β h f b=Ob β h f b0) :
  (Ob (cJ β ρ) i (eQ m2 fp ρ i) b).Sublist (Ob β h (fp h) b0):=by
 have e1:cJ β ρ i = β h:=by simp [cJ,hi]
 rw [<- hb];have:Ob (cJ β ρ) i (eQ m2 fp ρ i) b=Ob β h (eQ m2 fp ρ i) b:=by simp [Ob,e1]
 rw [this];unfold Ob;exact (List.Sublist.refl _).append ((NM hi).map _)
theorem SatI.ren {c s a w β fp} (S:SatI c s a w β fp) {m2 ρ} (N:Rn s.m m2 ρ) {e2:Nat->Option (Bool × AV)}
  (he:∀ t g av,e2 t=some (g,av)->g=true /\ ∃ y q,s.e t=some (g,y)/\mD av y=some q/\q.p /\ ∀ p ∈ q.hs,p ∈ ρ)
  (hpin:∀ p ∈ c.pins,ai ρ p.1=some (.inl p.1)/\(m2 p.1).isSome=true) :
  SatI c ⟨e2,m2⟩ a w (cJ β ρ) (eQ m2 fp ρ):=by
 -- each handle that is left stands for one with the same blocks,or has none
 have K:∀ i b,m2 i=some b->(∃ h b0,ai ρ i=some (.inl h)/\s.m h=some b0/\(Ob (cJ β ρ) i (eQ m2 fp ρ i) b).Sublist (Ob β h (fp h) b0)) \/ Ob (cJ β ρ) i (eQ m2 fp ρ i) b=[]:=by
  intro i b hi;cases b with
  | dead=>exact absurd hi (N.dead i)
  | own e k d R =>
   rcases N.own i e k d R hi with ⟨h,d',h1,h2,_⟩ | ⟨h1,_⟩
   ·exact .inl ⟨h,_,h1,h2,xY h1 fun f=>by
     unfold Ob
     congr 1
     cases β h <;> try rfl
     rename_i o _ _;cases o <;> rfl⟩
   ·exact .inr (by simp [Ob,cJ,eQ,h1])
  | box ty xs =>
   obtain ⟨h,ys,q,h1,h2,_⟩:=N.box i ty xs hi;exact .inl ⟨h,_,h1,h2,xY h1 fun f=>kl _ _ _ _ _ _ _⟩
 refine ⟨?_,?_,?_,?_,?_,S.fg,S.old,S.os,S.tape,S.output,S.size,S.defers,S.tn,fun p hp=>⟨by rw [<- (S.pin p hp).1]; simp [cJ,(hpin p hp).1],(hpin p hp).2⟩⟩
 ·intro t g av ht;obtain ⟨hgt,y,q,h1,h2,h3,h4⟩:=he t g av ht;obtain ⟨q1,q2,q3⟩:=S.env t g y h1;exact ⟨q1,fun hg=>NK N h2 h3 h4 (q2 hg),fun hg=>by rw [hgt] at hg; cases hg⟩
 ·intro i b hi;cases b with
  | dead=>exact absurd hi (N.dead i)
  | own e k d R =>
   rcases N.own i e k d R hi with ⟨h,d',h1,h2,hdd⟩ | ⟨h1,h2,h4⟩
   ·have hb:=S.mem h _ h2;have e1:cJ β ρ i = β h:=by simp [cJ,h1]
    have hi':m2 i=some (.own e k d R):=hi;have et:d=true->eQ m2 fp ρ i=fp h:=by rintro rfl; simp [eQ,h1,hi']
    have ef:d=false->eQ m2 fp ρ i=[]:=by rintro rfl; simp [eQ,h1,hi']
    obtain ⟨p1,p2,p3⟩:=hb;refine ⟨p1,p2,?_⟩;rw [e1];rcases p3 with ⟨p3,p4,p5⟩ | ⟨b',cap,cs,f0,r1,r2,r3,r4,r5,r6,r7,r8⟩
    ·refine .inl ⟨p3,p4,?_⟩;cases d with
     | true=>rw [et rfl,p5]
     | false=>exact ef rfl
    ·cases d with
     | true =>
      have hd:=hdd rfl;subst hd;exact .inr ⟨b',cap,cs,f0,r1,r2,r3,r4,r5,r6,fun _=>(et rfl).trans (r7 rfl),by simp⟩
     | false =>
      cases d' with
      | false=>exact .inr ⟨b',cap,cs,f0,r1,r2,r3,r4,r5,r6,by simp,fun hd=>⟨ef rfl,fun x hx=>⟨N.lim ((r8 hd).2 x hx).1,((r8 hd).2 x hx).2⟩⟩⟩
      | true =>
       obtain ⟨g0,hg0,hsub⟩:=r6.weak;refine .inr ⟨b',cap,cs,g0,r1,r2,r3,r4,r5,hg0,by simp,fun _=>⟨ef rfl,fun z hz=>?_⟩⟩
       have hz:=hsub z hz;have hob:z.1 ∈ Ob β h (fp h) (.own e k true R):=by
        simp only [Ob,List.mem_append,List.mem_map];exact .inr ⟨z,by rw [r7 rfl]; exact hz,rfl⟩
       refine ⟨N.lim ⟨?_,?_⟩,.inr ⟨rfl,S.free h _ h2 _ hob⟩⟩
       ·rintro ⟨g',ty',vs,hg',hgv⟩;have hne:h ≠ g':=by intro e; subst e; rw [h2] at hg'; cases hg'
        exact S.disj h g' _ _ h2 hg' hne _ hob (by simp [Ob,hgv])
       ·intro g' e1 k1 d1 R1 n1 c1 hg' hgv;by_cases hne:h=g'
        ·subst hne;have hnd:=S.nodup h _ h2;simp only [Ob,hgv,List.cons_append,List.nil_append,List.nodup_cons,List.mem_map,not_exists,not_and] at hnd;exact absurd rfl (hnd.1 z (by rw [r7 rfl]; exact hz))
        ·exact absurd (by simp [Ob,hgv]) (S.disj h g' _ _ h2 hg' hne _ hob)
   ·subst h4;exact ⟨h2,by simp,.inl ⟨by simp [cJ,h1],rfl,by simp [eQ,h1]⟩⟩
  | box ty xs =>
   obtain ⟨h,ys,q,h1,h2,h3,h4,h5⟩:=N.box i ty xs hi;obtain ⟨p0,b,cvs,r1,r2,r3,r4⟩:=S.mem h _ h2;exact ⟨by simp [eQ,h1,show m2 i=some (Blk.box ty xs) from hi,p0],b,cvs,by simp [cJ,h1,r1],r2,xq N h3 h4 h5 r3,r4⟩
 ·intro i b hi;rcases K i b hi with ⟨h,b0,h1,h2,h3⟩ | h3
  ·exact h3.nodup (S.nodup h _ h2)
  ·rw [h3]; exact List.nodup_nil
 ·intro i j b b' hi hj hne x hx hx';rcases K i b hi with ⟨h,b0,h1,h2,h3⟩ | h3 <;> rcases K j b' hj with ⟨h',b0',h1',h2',h3'⟩ | h3'
  ·refine S.disj h h' _ _ h2 h2' (fun e=>?_) x (h3.subset hx) (h3'.subset hx');subst e;exact hne (N.inj i j h (by rw [show m2 i=some b from hi]; rfl) (by rw [show m2 j=some b' from hj]; rfl) h1 h1')
  ·rw [h3'] at hx'; cases hx'
  ·rw [h3] at hx; cases hx
  ·rw [h3] at hx; cases hx
 ·intro i b hi x hx;rcases K i b hi with ⟨h,b0,h1,h2,h3⟩ | h3
  ·exact S.free h _ h2 x (h3.subset hx)
  ·rw [h3] at hx; cases hx
theorem Hx {α:Type}:∀ {l r:List (Nat × α)} {i v},ai l i=some v->ai (l++r) i=some v:=by
 intro l
 induction l with
 | nil=>intro r i v h; cases h
 | cons p l ih =>
  intro r i v h;obtain ⟨k,x⟩:=p;simp only [List.cons_append,ai] at h ⊢;split at h
  ·rename_i hk; rw [if_pos hk]; exact h
  ·rename_i hk; rw [if_neg hk]; exact ih h
theorem Ik {α β:Type} {f:α -> Option β}:∀ {l:List α},(l.filterMap f).Nodup->l.Nodup -> ∀ {x y b},x ∈ l->y ∈ l->f x=some b->f y=some b->x=y:=by
 intro l
 induction l with
 | nil=>intro _ _ x y b hx; cases hx
 | cons z l ih =>
  intro h hn x y b hx hy ex ey;rcases List.mem_cons.1 hx with rfl | hx' <;> rcases List.mem_cons.1 hy with rfl | hy'
  ·rfl
  ·rw [List.filterMap_cons_some ex,List.nodup_cons] at h;exact absurd (List.mem_filterMap.2 ⟨y,hy',ey⟩) h.1
  ·rw [List.filterMap_cons_some ey,List.nodup_cons] at h;exact absurd (List.mem_filterMap.2 ⟨x,hx',ex⟩) h.1
  ·refine ih ?_ (List.nodup_cons.1 hn).2 hx' hy' ex ey;cases hz:f z with
   | none=>rwa [List.filterMap_cons_none hz] at h
   | some c=>rw [List.filterMap_cons_some hz,List.nodup_cons] at h; exact h.2
theorem CZ {m ρ}:∀ {l:List (Nat × Blk)} {i b},ov m ρ l->(i,b) ∈ l->b ≠ .dead /\ ∀ e k d R,b = .own e k d R ->
  (∃ h d',ai ρ i=some (.inl h)/\m h=some (.own e k d' R)/\(d=true->d'=true)) \/ (ai ρ i=some (.inr k)/\0 < k/\R=[]):=by
 intro l
 induction l with
 | nil=>intro i b _ h; cases h
 | cons p l ih =>
  intro i b h hm;obtain ⟨j,x⟩:=p;cases x with
  | dead=>exact h.elim
  | own e k d R =>
   obtain ⟨h1,h2⟩:=h;rcases List.mem_cons.1 hm with hm | hm
   ·cases hm;refine ⟨by simp,fun e' k' d' R' he=>?_⟩
    cases he;split at h1
    ·rename_i g hg;split at h1
     ·rename_i e2 k2 d2 R2 hm2;obtain ⟨⟨rfl,rfl,rfl⟩,hd⟩:=h1;exact .inl ⟨g,d2,hg,hm2,hd⟩
     ·exact h1.elim
    ·rename_i k2 hg;obtain ⟨rfl,q⟩:=h1;exact .inr ⟨hg,q⟩
    ·exact h1.elim
   ·exact ih h2 hm
  | box ty xs =>
   rcases List.mem_cons.1 hm with hm | hm
   ·cases hm;exact ⟨by simp,fun _ _ _ _ he=>by cases he⟩
   ·exact ih h hm
theorem NI {m ρ}:∀ {l:List (Nat × Blk)} {q},mC m ρ l=some q->q.p -> ∀ {i ty xs},(i,Blk.box ty xs) ∈ l ->
  ∃ h ys a,ai ρ i=some (.inl h)/\m h=some (.box ty ys)/\jx xs ys=some a/\a.p /\ ∀ p ∈ a.hs,p ∈ q.hs:=by
 intro l
 induction l with
 | nil=>intro q _ _ i ty xs h; cases h
 | cons p l ih =>
  intro q hq hp i ty xs hm;obtain ⟨j,x⟩:=p;cases x with
  | dead =>
   rcases List.mem_cons.1 hm with hm | hm
   ·cases hm
   ·exact ih hq hp hm
  | own e k d R =>
   rcases List.mem_cons.1 hm with hm | hm
   ·cases hm
   ·exact ih hq hp hm
  | box ty' xs' =>
   simp only [mC] at hq;split at hq
   ·rename_i h hh;split at hq
    ·rename_i ty2 ys b hmh hb;split at hq
     ·rename_i a ha;cases hq;obtain ⟨rfl,p1,p2⟩:=hp;rcases List.mem_cons.1 hm with hm | hm
      ·cases hm;exact ⟨h,ys,a,hh,hmh,ha,p1,fun p hp=>List.mem_append_left _ hp⟩
      ·obtain ⟨h2,ys2,a2,r1,r2,r3,r4,r5⟩:=ih hb p2 hm;exact ⟨h2,ys2,a2,r1,r2,r3,r4,fun p hp=>List.mem_append_right _ (r5 p hp)⟩
     ·cases hq
    ·cases hq
   ·cases hq
theorem NJ {e:Nat->Option (Bool × AV)}:∀ {l:List (Nat × Bool × AV)} {q},ou e l=some q->q.p -> ∀ {t g av},(t,g,av) ∈ l ->
  g=true /\ ∃ y a,e t=some (g,y)/\mD av y=some a/\a.p /\ ∀ p ∈ a.hs,p ∈ q.hs:=by
 intro l
 induction l with
 | nil=>intro q _ _ t g av h; cases h
 | cons p l ih =>
  intro q hq hp t g av hm;obtain ⟨t',g',x⟩:=p;simp only [ou] at hq;split at hq
  ·rename_i g2 y b he hb;split at hq
   ·rename_i a ha;cases hq;obtain ⟨⟨rfl,rfl⟩,p1,p2⟩:=hp;rcases List.mem_cons.1 hm with hm | hm
    ·cases hm;exact ⟨rfl,y,a,he,ha,p1,fun p hp=>List.mem_append_left _ hp⟩
    ·obtain ⟨r0,y2,a2,r1,r2,r3,r4⟩:=ih hb p2 hm;exact ⟨r0,y2,a2,r1,r2,r3,fun p hp=>List.mem_append_right _ (r4 p hp)⟩
   ·cases hq
  ·cases hq
theorem zT {pk:List Nat} {s:St} {t:Sc} {c a w} (hpk:∀ p ∈ c.pins,p.1 ∈ pk) (h:Sc.from pk s t) (S:Sat c s a w):Sat c t.st a w:=by
 obtain ⟨β,fp,S⟩:=S;unfold Sc.from at h
 split at h
 ·exact h.elim
 ·rename_i A hA;split at h
  ·exact h.elim
  ·rename_i B hB;obtain ⟨hAp,hBp,hok,hown,hpin⟩:=h;have hkey:∀ {i b},ai t.mem i=some b->i ∈ t.mem.map (·.1):=fun h=>List.mem_map.2 ⟨_,c8 h,rfl⟩;have N:Rn s.m (ai t.mem) ((A.hs++pk.map fun i=>(i,.inl i))++B.hs):=by
    refine ⟨fun p hp=>?_,fun i e k d R hi=>(CZ hown (c8 hi)).2 e k d R rfl,fun i ty xs hi=>?_,fun i hi=>(CZ hown (c8 hi)).1 rfl,fun i j h hi hj h1 h2=>?_⟩
    ·obtain ⟨q1,q2⟩:=hok.1 p hp;obtain ⟨v,hv⟩:=ig q2;exact ⟨q1,by rw [hv]; rfl⟩
    ·obtain ⟨h,ys,q,r1,r2,r3,r4,r5⟩:=NI hB hBp (c8 hi);exact ⟨h,ys,q,Hx r1,r2,r3,r4,fun p hp=>List.mem_append_right _ (r5 p hp)⟩
    ·obtain ⟨b1,hb1⟩:=Option.isSome_iff_exists.1 hi;obtain ⟨b2,hb2⟩:=Option.isSome_iff_exists.1 hj;exact Ik hok.2.2 hok.2.1 (hkey hb1) (hkey hb2) (b:=h) (by simp only [h1]) (by simp only [h2])
   refine ⟨_,_,S.ren N (fun tt g av ht=>?_) (fun p hp=>?_)⟩
   ·obtain ⟨r0,y,q,r1,r2,r3,r4⟩:=NJ hA hAp (c8 ht);exact ⟨r0,y,q,r1,r2,r3,fun p hp=>List.mem_append_left _ (List.mem_append_left _ (r4 p hp))⟩
   ·obtain ⟨h1,h2⟩:=hpin p.1 (hpk p hp);obtain ⟨v,hv⟩:=ig h2;exact ⟨h1,by rw [hv]; rfl⟩
def iW (T:Nat->Option TI) (s:St):ResultVar->Option AV
 | .tmp t=>match s.e t with | some (true,v)=>some v | _=>none
 | .cell x t=>match s.e x with
  | some (true,.ptr h o)=>match il T t s.m (.ptr h o) with
   | some r=>some r.av
   | none=>none
  | _=>none
def ka (tmps:Array Value):ResultVar->Sem Value
 | .tmp t=>pure (tmps.getD t undef)
 | .cell a t=>do loadVar t (<- asAddr (tmps.getD a undef))
def rz (T:Nat->Option TI) (fn:Func) (s:St):Option (Bool × AV) :=
 match fn.results.toList with
 | [.tmp t]=>s.e t
 | [.cell x t]=>match iW T s (.cell x t) with
  | some v=>some (true,v)
  | none=>none
 | l=>match l.mapM (iW T s) with
  | some vs=>some (true,.tup vs)
  | none=>none
def qj (T:Nat->Option TI) (fn:Func) (k:Con) (a:k.A) (s:St):Prop :=
 match rz T fn s with
 | some (true,v)=>∃ x,k.post a x/\Sc.from (k.pk a) ⟨fun i=>if i=0 then some (true,v) else none,s.m⟩ ⟨[(0,true,k.res a x)],k.fin a x⟩
 | _=>False
def pd (T:Nat->Option TI) (fn:Func) (k:Con) (a:k.A):Exit->St->Prop
 | .normal,s | .ret,s=>qj T fn k a s
 | _,_=>False
theorem C4 {P:Program} {T:Nat->Option TI} (hT:∀ t ti,T t=some ti->TOk P t ti) {w c s a β fp} (S:SatI c s a w β fp) {x t v} (h:iW T s (.cell x t)=some v) :
  ∃ u,(ka a.tmps (.cell x t)).run P w = .ok u w/\RelL w s.m β c [v] [u]:=by
 simp only [iW] at h;split at h
 ·rename_i g y he;split at h
  ·rename_i r hr;cases h;have hx:=(S.env x true _ he).2.1 rfl;have hp:r.pre:=by
    simp only [il] at hr
    repeat' split at hr
    all_goals first | (cases hr; done) | (cases hr; trivial)
   obtain ⟨_,_,u,q1,q2⟩:=Bm hT S (fun _ _ h=>h) hx hr hp;refine ⟨u,?_,q2⟩;simp only [ka];generalize a.tmps.getD x undef=z at hx q1;cases hx with
   | ptr _ _ _ =>
    simpa [Instr.loadAt,Instr.sureAddr,asAddr] using q1
  ·cases h
 ·cases h
theorem N3 {P:Program} {T:Nat->Option TI} (hT:∀ t ti,T t=some ti->TOk P t ti) {w c s a β fp} (S:SatI c s a w β fp):∀ {l:List ResultVar} {vs:List AV},
  (l.mapM (iW T s))=some vs ->
  ∃ us:List Value,(l.mapM (ka a.tmps)).run P w = .ok us w /\
   RelL w s.m β c vs us/\us.length=l.length:=by
 intro l
 induction l with
 | nil=>intro vs h; simp at h; subst h; exact ⟨[],by simp,.lnil,rfl⟩
 | cons r l ih =>
  intro vs h;have hone:∀ v,iW T s r=some v -> ∃ u,(ka a.tmps r).run P w = .ok u w/\RelL w s.m β c [v] [u]:=by
   intro v hv;cases r with
   | cell x t=>exact C4 hT S hv
   | tmp t =>
    simp only [iW] at hv;split at hv
    ·rename_i v' he;cases hv;exact ⟨_,by simp [ka],(S.env t true _ he).2.1 rfl⟩
    ·cases hv
  simp only [List.mapM_cons] at h;cases hr:iW T s r with
  | none=>rw [hr] at h; simp at h
  | some v =>
   rw [hr] at h;simp only [Option.bind_eq_bind,Option.bind_some] at h;cases hl:(l.mapM (iW T s)) with
   | none=>rw [hl] at h; simp at h
   | some vs' =>
    rw [hl] at h;simp at h;subst h;obtain ⟨us,h1,h2,h3⟩:=ih hl;obtain ⟨u,q1,q2⟩:=hone v hr;refine ⟨u :: us,?_,q2.append h2,by simp [h3]⟩
    simp only [List.mapM_cons,Sem.run_bind,q1,Result.andThen_ok];rw [h1];rfl
theorem N5 (fn:Func) (tmps:Array Value):results fn tmps=(do let vs <- fn.results.toList.mapM (ka tmps); pure (if h:vs.toArray.size=1 then vs.toArray[0] else .tuple vs.toArray)):=by
 unfold results;rw [Array.mapM_eq_mapM_toList];have e:(fun x:ResultVar=>match x with
  | .tmp t=>(pure (tmps.getD t undef):Sem Value)
  | .cell a t=>do loadVar t (<- asAddr (tmps.getD a undef)))=ka tmps:=by funext x; cases x <;> rfl
 first
 | (rw [<- e]; simp; rfl)
 | (simp only [map_bind]; rfl)
theorem N2 {P:Program} {T:Nat->Option TI} (hT:∀ t ti,T t=some ti->TOk P t ti) {fn w c s a β fp v} (S:SatI c s a w β fp) (h:rz T fn s=some (true,v)):∃ u,(results fn a.tmps).run P w = .ok u w/\RelL w s.m β c [v] [u]:=by
 rw [N5];unfold rz at h;split at h
 ·rename_i t hl;rw [hl];exact ⟨a.tmps.getD t undef,by simp [ka],(S.env t true v h).2.1 rfl⟩
 ·rename_i x t hl;rw [hl];split at h
  ·rename_i v' hv;cases h;obtain ⟨u,q1,q2⟩:=C4 hT S hv;refine ⟨u,?_,q2⟩;simp [List.mapM_cons,q1]
  ·cases h
 ·rename_i hne hne2;split at h
  ·rename_i vs hvs;cases h;obtain ⟨us,h1,h2,h3⟩:=N3 (P:=P) hT S hvs;refine ⟨.tuple us.toArray,?_,.tup h2 .lnil⟩;have h4:us.length ≠ 1:=by
    intro h4;rw [h3] at h4;obtain ⟨r,hr⟩:=List.length_eq_one_iff.1 h4;cases r with
    | tmp t=>exact hne t hr
    | cell x t=>exact hne2 x t hr
   rw [Sem.run_bind,h1];simp [h4]
  ·cases h
theorem HR {P:Program} {f:Nat} {fn:Func} {code:Code} {k:Con} {wk:k.A->Wk} (hf:P.funcs[f]? = some fn) (hname:(fn.name == "runtime.NumGoroutine")=false) (hb:fn.body=some code)
  (hn:fn.ntmps=k.n) (hpos:0 < k.n) (tot:∀ a,∃ x,k.post a x) (nob:k.nob=true -> ∀ a,k.boxes a=[]) (HW:∀ a c,c.n=k.n->(∀ p ∈ c.pins,p.1 ∈ k.pk a)->Kn k.need c->WkOk P (wk a) c)
  (hc:∀ a,codeOk (wk a).okr code=true) (h:∀ a,k.pre a->vc (wk a) code (pd (wk a).T fn k a) (k.start2 a)) (hbd:k.bld=(0,0,0,0)) (hbt:k.bty=[] \/ ∀ a,(∀ b ∈ k.boxes a,b.2.1 ∈ k.bty) /\ ∀ x,∀ p ∈ k.fin a x,∀ ty vs,p.2 = .box ty vs->ty ∈ k.bty):Has P f k:=by
 refine ⟨fun args w=>Go.MuLone.run_callFunc_enter hf hname hb args w,tot,nob,?_,by rw [hbd]; trivial,hbt⟩
 intro a hp c hky vs β fp hcn hpins hl1 hl2 S;refine calls_of_wp hf hb ?_;have hpk:∀ p ∈ c.pins,p.1 ∈ k.pk a:=by
  intro p hp;rw [hpins] at hp;unfold Con.pins2 at hp;unfold Con.pk;rcases List.mem_append.1 hp with hp | hp
  ·obtain ⟨b,hb,rfl⟩:=List.mem_map.1 hp;exact List.mem_append_left _ (List.mem_map.2 ⟨b,hb,rfl⟩)
  ·obtain ⟨i,hi,rfl⟩:=List.mem_map.1 hp;exact List.mem_append_right _ hi
 have hwp:=Qe (HW a c hcn hpk hky) code (hc a) (h a hp) ⟨β,fp,S⟩;have hsz:vs.toArray.size=vs.length:=by simp
 rw [hn,hsz];have fin:∀ s a' w',qj (wk a).T fn k a s->Sat c s a' w'->a'.defers=[] /\ ∃ v,(results fn a'.tmps).run P w' = .ok v w' /\ ∃ x,k.post a x /\ ∃ v',Ending.returned v = .returned v' /\ ∃ β' fp' a'',SatI c (k.end_ a x) a'' w' β' fp' /\
   RelL w' (ai (k.fin a x)) β' c [k.res a x] [v']:=by
  intro s a' w' hfin ⟨β1,fp1,S1⟩;refine ⟨S1.defers,?_⟩;unfold qj at hfin;split at hfin
  ·rename_i v hv;obtain ⟨x,hx,hfrom⟩:=hfin;obtain ⟨u,h1,h2⟩:=N2 (P:=P) (HW a c hcn hpk hky).T S1 hv;have S2:Sat c ⟨fun i=>if i=0 then some (true,v) else none,s.m⟩ ⟨(Array.replicate c.n undef).setIfInBounds 0 u,[]⟩ w':=by
    refine ⟨β1,fp1,?_,S1.mem,S1.nodup,S1.disj,S1.free,S1.fg,S1.old,S1.os,S1.tape,S1.output,S1.size,rfl,by simp,S1.pin⟩
    intro t g av ht;simp only at ht;split at ht
    ·rename_i h0;subst h0;cases ht;have hc:0 < c.n:=by rw [hcn]; exact hpos
     refine ⟨by simpa using hc,fun _=>?_,by simp⟩
     have:((Array.replicate c.n undef).setIfInBounds 0 u).getD 0 undef=u:=by simp [Array.getD_eq_getD_getElem?,hc]
     rw [this]; exact h2
    ·cases ht
   obtain ⟨β2,fp2,S3⟩:=zT hpk hfrom S2;refine ⟨u,h1,x,hx,u,rfl,β2,fp2,_,⟨(by intro t g av ht; cases ht),S3.mem,S3.nodup,S3.disj,S3.free,S3.fg,S3.old,S3.os,S3.tape,S3.output,S3.size,S3.defers,S3.tn,S3.pin⟩,?_⟩
   have:=(S3.env 0 true (k.res a x) (by simp [Sc.st,ai])).2.1 rfl
   have hc:0 < c.n:=by rw [hcn]; exact hpos
   have e:((Array.replicate c.n undef).setIfInBounds 0 u).getD 0 undef=u:=by simp [Array.getD_eq_getD_getElem?,hc]
   rw [e] at this;exact this
  ·exact hfin.elim
 refine wp_mono hwp ?_;rintro e a' w' ⟨s,hq,S1⟩;cases e with
 | normal=>exact fin s a' w' hq S1
 | ret=>exact fin s a' w' hq S1
 | _=>exact hq.elim

theorem Ms {ti:TI} {ρ ρ':Operand->AV}:∀ {ps:List (Nat × Operand)} {i},(∀ p ∈ ps,ρ p.2 = ρ' p.2)->gE ti ρ ps i=gE ti ρ' ps i:=by
 intro ps
 induction ps with
 | nil=>intro i _; rfl
 | cons p ps ih =>
  intro i h;obtain ⟨j,x⟩:=p;simp only [gE];rw [h (j,x) (by simp),ih fun p hp=>h p (by simp [hp])]
theorem Mt {ρ ρ':Operand->AV} {ps:List (Nat × Operand)} (h:∀ p ∈ ps,ρ p.2 = ρ' p.2):iT ρ ps=iT ρ' ps:=by
 induction ps with
 | nil=>rfl
 | cons p ps ih =>
  have h1:=h p (by simp)
  have h2:=ih fun q hq=>h q (by simp [hq])
  unfold iT at h2 ⊢;simp only [List.all_cons,h1,h2]
theorem Hd {T:Nat->Option TI} {fields:List (Nat × Nat)} {ρ ρ':Operand->AV}:∀ {ps:List (Nat × Operand)} {cs},(∀ p ∈ ps,ρ p.2 = ρ' p.2)->gw T fields ρ ps cs=gw T fields ρ' ps cs:=by
 intro ps
 induction ps with
 | nil=>intro cs _; rfl
 | cons p ps ih =>
  intro cs h;obtain ⟨j,x⟩:=p;simp only [gw];rw [h (j,x) (by simp)]
  have e:∀ cs,gw T fields ρ ps cs=gw T fields ρ' ps cs:=fun cs=>ih fun p hp=>h p (by simp [hp])
  simp only [e]
theorem FX {T:Nat->Option TI} {t} {ρ ρ':Operand->AV} {ps:List (Nat × Operand)} (h:∀ p ∈ ps,ρ p.2 = ρ' p.2):iF T t ρ ps=iF T t ρ' ps:=by simp only [iF,Hd h]
theorem wU {ρ ρ':Operand->AV} {l:List Operand} (h:∀ x ∈ l,ρ x = ρ' x):l.map ρ = l.map ρ':=List.map_congr_left h
theorem F6 {T g d m} {ρ ρ':Operand->AV} {o:Oper} (h:∀ x ∈ o.op.operands,ρ x = ρ' x):calm T g d m ρ o=calm T g d m ρ' o:=by
 obtain ⟨dst,op,ty,pos,after,guard⟩:=o;unfold calm;cases op <;> simp only [Op.operands] at h ⊢
 case call cl =>
  obtain ⟨callee,args,argTypes⟩:=cl;cases callee <;> (try rfl)
  rename_i b;have h':∀ x ∈ args.toList,ρ x = ρ' x:=fun x hx=>h x (by simpa [Call.operands] using hx)
  cases b <;> (try rfl) <;> simp only
  ·split
   ·rename_i x t hx _;rw [h' x (by simp [hx])]
   ·rfl
  ·rw [wU h']
  ·rw [wU h']
 case buildSlice t n ps =>
  have h':∀ p ∈ ps.toList,ρ p.2 = ρ' p.2:=fun p hp=>h p.2 (by simp; exact ⟨_,by simpa using hp⟩)
  simp only [Ms h',Mt h']
 case build t ps =>
  have h':∀ p ∈ ps.toList,ρ p.2 = ρ' p.2:=fun p hp=>h p.2 (by simp; exact ⟨_,by simpa using hp⟩)
  exact FX h'
 case slice t x lo hi mx =>
  cases mx <;> simp only
  have e1:=h x (by simp)
  have e2:lo.map ρ = lo.map ρ':=by cases lo with | none=>rfl | some y=>simp [h y (by simp)]
  have e3:hi.map ρ = hi.map ρ':=by cases hi with | none=>rfl | some y=>simp [h y (by simp)]
  rw [e1,e2,e3]
 case makeFunc fn first captured =>
  cases fn <;> (try rfl)
  simp only;rw [wU (l:=captured.toList) fun x hx=>h x (by simp at hx ⊢; exact .inr hx)]
 all_goals (try rfl)
 all_goals (try (rw [h _ (by simp)]))
 all_goals (try (rw [h _ (by simp)]))
theorem iu {w m β c h e k R} {f:List (Nat × Nat)} {fps:Nat->List (Nat × Nat)} (hm:m h=some (.own e k true R)) (hb:BlkOk w m β c h f (.own e k true R))
  (hnd:(Ob β h f (.own e k true R)).Nodup) (hd:∀ h' blk',m h'=some blk'->h' ≠ h -> ∀ x ∈ Ob β h f (.own e k true R),x ∉ Ob β h' (fps h') blk')
  (hf:∀ x ∈ Ob β h f (.own e k true R),¬ c.G x):RelL w m β c [.own h k R] [β h]:=by
 obtain ⟨hk,hR,h3⟩:=hb;refine .own (by rw [hm]; rfl) ⟨e,?_⟩ (fun e' k' d' R' hm'=>?_) .lnil
 ·rcases h3 with ⟨q1,q2,q3⟩ | ⟨b,cap,cs,f0,q1,q2,q3,q4,q5,q6,q7,q8⟩
  ·subst q2;rw [q1];exact ⟨[],.sl0 (by unfold maxLen; omega) (by simp) .nil,by simp⟩
  ·have e1:f=f0:=q7 rfl;subst e1;have hlim:∀ x:Nat × Nat,x.1 ∈ Ob β h f (.own e k true R)->(x.1=b->x.2<=R.length * k)->Lim m β x:=by
    intro x hx hxb;refine ⟨?_,?_⟩
    ·rintro ⟨g,ty,vs,hg,hgv⟩;have hne:g ≠ h:=by intro e; subst e; rw [hm] at hg; cases hg
     exact hd g _ hg hne x.1 hx (by simp [Ob,hgv])
    ·intro g e2 k2 d2 R2 n2 c2 hg hgv;by_cases hne:g=h
     ·subst hne;rw [hm] at hg;cases hg;rw [q1] at hgv;cases hgv;exact hxb rfl
     ·exact absurd (by simp [Ob,hgv]) (hd g _ hg hne x.1 hx)
   by_cases h0:R=[]
   ·subst h0;rw [q1];exact ⟨[],by simpa using RdL.sl0 q4 (by simp) .nil,by simp⟩
   ·have hpos:0 < R.length:=List.length_pos_iff.2 h0;obtain ⟨f1,r1,r2⟩:=q6.weak;have hlen:(cs.toList.take (R.length * k)).length=R.length * k:=by rw [<- q6.length,eX hR]
    refine ⟨(b,0+(cs.toList.take (R.length * k)).length) :: (f1++[]),?_,?_⟩
    ·rw [q1];exact .sl rfl (.inr hpos) q3 q4 hR q2 (by simp) (fun j u hu=>by
      rw [List.getElem?_take] at hu;split at hu
      ·simpa using hu
      ·cases hu) r1 .nil
    ·intro x hx;simp only [List.append_nil,List.mem_cons] at hx;rcases hx with rfl | hx
     ·have hx1:b ∈ Ob β h f (.own e k true R):=by simp [Ob,q1]
      refine ⟨hlim _ hx1 (fun _=>?_),.inr ⟨rfl,hf _ hx1⟩⟩;simp only [Nat.zero_add,hlen]; exact Nat.le_refl _
     ·have hxf:=r2 x hx;have hx1:x.1 ∈ Ob β h f (.own e k true R):=by
       simp only [Ob,List.mem_append,List.mem_map];exact .inr ⟨x,hxf,rfl⟩
      refine ⟨hlim _ hx1 (fun hxb=>?_),.inr ⟨rfl,hf _ hx1⟩⟩;exfalso;simp only [Ob,q1,List.cons_append,List.nil_append,List.nodup_cons,List.mem_map,not_exists,not_and] at hnd;exact hnd.1 x hxf hxb
 ·rw [hm] at hm';cases hm';exact ⟨rfl,rfl⟩
def AV.wipe1 (m:Nat->Option Blk):AV->AV
 | .int k n=>.int k n
 | .bool b=>.bool b
 | .str s=>.str s
 | .raw v=>.raw v
 | .nil=>.nil
 | .sl true k r=>.sl true k r
 | .bptr true ds=>.bptr true ds
 | .own h _ _=>match m h with
  | some (.own _ k true R)=>.own h k R
  | _=>.junk
 | .ptr h o=>.ptr h o
 | _=>.junk
def AV.wipeV (m:Nat->Option Blk):AV->AV
 | .agg vs=>.agg (vs.map (AV.wipe1 m))
 | .clo f vs=>.clo f (vs.map (AV.wipe1 m))
 | v=>v.wipe1 m
def AV.wipe (m:Nat->Option Blk):AV->AV
 | .tup vs=>.tup (vs.map (AV.wipeV m))
 | v=>v.wipeV m
def Blk.wipe (m:Nat->Option Blk):Blk->Blk
 | .own e k true R=>.own e k true R
 | .own _ _ false _=>.dead
 | .box ty vs=>.box ty (vs.map (AV.wipe1 m))
 | .dead=>.dead
def St.wipe (s:St) (m:Nat->Option Blk):St:=⟨fun t=>(s.e t).map fun p=>(p.1,p.2.wipe m),fun h=>(m h).map (Blk.wipe m)⟩
structure Chg (c:Cx) (s:St) (w:World) (β:Nat->Value) (fp:Nat->List (Nat × Nat)) (w':World) (m1:Nat->Option Blk) (β':Nat->Value) (fp':Nat->List (Nat × Nat)) (stay:Nat->Prop):Prop where
 G:∀ b,c.G b->w'.heap[b]? = w.heap[b]?
 size:w.heap.size<=w'.heap.size
 os:w'.os=w.os
 tape:w'.tape=w.tape
 output:w'.output=w.output
 m:∀ h,stay h->m1 h=s.m h /\ β' h = β h/\fp' h=fp h
 heap:∀ h blk,stay h->s.m h=some blk -> ∀ b ∈ Ob β h (fp h) blk,w'.heap[b]? = w.heap[b]?
 new:∀ h blk,¬ stay h->m1 h=some blk->(blk = .dead/\fp' h=[]) \/ (∃ e k R,blk = .own e k true R/\BlkOk w' m1 β' c h (fp' h) blk) \/ (∃ ty vs,blk = .box ty vs/\BlkOk w' (fun h=>(m1 h).map (Blk.wipe m1)) β' c h (fp' h) (.box ty (vs.map (AV.wipe1 m1))))
 nodup:∀ h blk,¬ stay h->m1 h=some blk->(Ob β' h (fp' h) blk).Nodup
 free:∀ h blk,¬ stay h->m1 h=some blk -> ∀ b ∈ Ob β' h (fp' h) blk,¬ c.G b
 old:∀ h blk,¬ stay h->m1 h=some blk -> ∀ b ∈ Ob β' h (fp' h) blk,∀ h' blk',stay h'->s.m h'=some blk'->b ∉ Ob β h' (fp h') blk'
 apart:∀ h blk h' blk',¬ stay h->m1 h=some blk -> ¬ stay h'->m1 h'=some blk'->h ≠ h' -> ∀ b ∈ Ob β' h (fp' h) blk,b ∉ Ob β' h' (fp' h') blk'
 some_:∀ h,(s.m h).isSome=true->(m1 h).isSome=true /\ β' h = β h
 own:∀ h e k R,(s.m h).isSome=true->m1 h=some (.own e k true R) -> ∃ d0 R0,s.m h=some (.own e k d0 R0)
theorem DQ {m1:Nat->Option Blk} {v:AV}:∀ h ∈ (v.wipe1 m1).hs,h ∈ v.hs:=by
 intro h hh;cases v <;> try (cases hh; done)
 case sl e k r=>cases e <;> cases hh
 case bptr e d=>cases e <;> cases hh
 case own g k r =>
  simp only [AV.wipe1] at hh;split at hh
  ·exact hh
  ·cases hh
 case ptr=>exact hh
theorem DR {m1:Nat->Option Blk}:∀ {vs:List AV},∀ h ∈ AV.hs.hsL (vs.map (AV.wipe1 m1)),h ∈ AV.hs.hsL vs:=by
 intro vs
 induction vs with
 | nil=>intro h hh; cases hh
 | cons v vs ih =>
  intro h hh;simp only [List.map_cons,AV.hs.hsL,List.mem_append] at hh ⊢;rcases hh with hh | hh
  ·exact .inl (DQ h hh)
  ·exact .inr (ih h hh)
theorem DU {m1:Nat->Option Blk} {v:AV}:∀ h ∈ (v.wipeV m1).hs,h ∈ v.hs:=by
 intro h hh;unfold AV.wipeV at hh;split at hh
 ·exact DR h hh
 ·exact DR h hh
 ·exact DQ h hh
theorem Qq {m1:Nat->Option Blk}:∀ {vs:List AV},∀ h ∈ AV.hs.hsL (vs.map (AV.wipeV m1)),h ∈ AV.hs.hsL vs:=by
 intro vs
 induction vs with
 | nil=>intro h hh; cases hh
 | cons v vs ih =>
  intro h hh;simp only [List.map_cons,AV.hs.hsL,List.mem_append] at hh ⊢;rcases hh with hh | hh
  ·exact .inl (DU h hh)
  ·exact .inr (ih h hh)
theorem Qv {m1:Nat->Option Blk} {v:AV}:∀ h ∈ (v.wipe m1).hs,h ∈ v.hs:=by
 intro h hh;unfold AV.wipe at hh;split at hh
 ·exact Qq h hh
 ·exact DU h hh
theorem Qs {m m1 m2:Nat->Option Blk} {v:AV} (hm:∀ h,(m h).isSome=true->(m2 h).isSome=true) (h:alive m v):alive m2 (v.wipe m1):=fun g hg=>hm g (h g (Qv g hg))
theorem Chg.some' {c:Cx} {s:St} {w:World} {β:Nat->Value} {fp:Nat->List (Nat × Nat)} {w':World} {m1:Nat->Option Blk} {β':Nat->Value} {fp':Nat->List (Nat × Nat)} {stay:Nat->Prop} (C:Chg c s w β fp w' m1 β' fp' stay) :
  ∀ h,(s.m h).isSome=true->((s.wipe m1).m h).isSome=true:=by
 intro h hs;obtain ⟨b,hb⟩:=Option.isSome_iff_exists.1 (C.some_ h hs).1;simp [St.wipe,hb]
theorem mN {β β':Nat->Value} {h:Nat} {f:List (Nat × Nat)} {b b':Blk} (hv:β' h = β h) (hb:(∃ e k d R e' k' d' R',b = .own e k d R/\b' = .own e' k' d' R') \/ (∃ t v t' v',b = .box t v/\b' = .box t' v')) :
  Ob β' h f b=Ob β h f b':=by
 rcases hb with ⟨_,_,_,_,_,_,_,_,rfl,rfl⟩ | ⟨_,_,_,_,rfl,rfl⟩
 ·simp only [Ob,hv]
  congr 1
  cases β h <;> try rfl
  rename_i o l cc;rcases o with _ | o <;> rfl
 ·simp only [Ob,hv]
  congr 1
  cases β h <;> try rfl
  rename_i o;rcases o with _ | o <;> rfl
section
variable {c:Cx} {s:St} {a:Act} {w:World} {β:Nat->Value} {fp:Nat->List (Nat × Nat)} (S:SatI c s a w β fp)
 {w':World} {m1:Nat->Option Blk} {β':Nat->Value} {fp':Nat->List (Nat × Nat)} {stay:Nat->Prop} (C:Chg c s w β fp w' m1 β' fp' stay)
abbrev wm (m1:Nat->Option Blk):Nat->Option Blk:=fun h=>(m1 h).map (Blk.wipe m1)
theorem QG {m1 h e k d R} (h1:wm m1 h=some (.own e k d R)):d=true/\m1 h=some (.own e k true R):=by
 cases hb:m1 h with
 | none=>simp [wm,hb] at h1
 | some b =>
  simp only [wm,hb,Option.map_some,Option.some.injEq] at h1;cases b with
  | own e' k' d' R' =>
   cases d' with
   | true=>simp only [Blk.wipe] at h1; cases h1; exact ⟨rfl,rfl⟩
   | false=>simp only [Blk.wipe] at h1; cases h1
  | box ty vs=>simp only [Blk.wipe] at h1; cases h1
  | dead=>simp only [Blk.wipe] at h1; cases h1
theorem QF {m1 h ty vs} (h1:wm m1 h=some (.box ty vs)):∃ us,m1 h=some (.box ty us)/\vs=us.map (AV.wipe1 m1):=by
 cases hb:m1 h with
 | none=>simp [wm,hb] at h1
 | some b =>
  simp only [wm,hb,Option.map_some,Option.some.injEq] at h1;cases b with
  | own e' k' d' R'=>cases d' <;> simp only [Blk.wipe] at h1 <;> cases h1
  | box ty vs=>simp only [Blk.wipe] at h1; cases h1; exact ⟨_,rfl,rfl⟩
  | dead=>simp only [Blk.wipe] at h1; cases h1
include S C in
theorem Chg.ob {h blk} (hm:wm m1 h=some blk):(stay h /\ ∃ blk0,s.m h=some blk0/\(blk = .dead/\Ob β' h (fp' h) blk=[] \/ Ob β' h (fp' h) blk=Ob β h (fp h) blk0)) \/
  (¬ stay h /\ ∃ blk0,m1 h=some blk0/\Ob β' h (fp' h) blk=Ob β' h (fp' h) blk0):=by
 by_cases hs:stay h
 ·obtain ⟨q1,q2,q3⟩:=C.m h hs;cases hb:s.m h with
  | none=>rw [hb] at q1; simp [wm,q1] at hm
  | some b =>
   rw [hb] at q1;simp only [wm,q1,Option.map_some,Option.some.injEq] at hm;refine .inl ⟨hs,b,rfl,?_⟩;cases b with
   | own e k d R =>
    cases d with
    | true=>subst hm; exact .inr (by rw [q3]; exact mN q2 (.inl ⟨_,_,_,_,_,_,_,_,rfl,rfl⟩))
    | false =>
     subst hm;refine .inl ⟨rfl,?_⟩;have hb0:=S.mem h _ hb;obtain ⟨_,_,h3⟩:=hb0;have:fp h=[]:=by
      rcases h3 with ⟨_,_,h3⟩ | ⟨_,_,_,_,_,_,_,_,_,_,_,h8⟩
      ·exact h3
      ·exact (h8 rfl).1
     simp [Ob,Blk.wipe,q3,this]
   | box ty vs=>subst hm; exact .inr (by rw [q3]; exact mN q2 (.inr ⟨_,_,_,_,rfl,rfl⟩))
   | dead =>
    subst hm;have:fp h=[]:=S.mem h _ hb;exact .inl ⟨rfl,by simp [Ob,Blk.wipe,q3,this]⟩
 ·refine .inr ⟨hs,?_⟩;cases hb:m1 h with
  | none=>simp [wm,hb] at hm
  | some b =>
   refine ⟨b,rfl,?_⟩;rcases C.new h b hs hb with ⟨rfl,_⟩ | ⟨e,k,R,rfl,_⟩ | ⟨ty,vs,rfl,_⟩
   ·simp only [wm,hb,Option.map_some,Option.some.injEq,Blk.wipe] at hm; rw [<- hm]
   ·simp only [wm,hb,Option.map_some,Option.some.injEq,Blk.wipe] at hm; rw [<- hm]
   ·simp only [wm,hb,Option.map_some,Option.some.injEq,Blk.wipe] at hm; subst hm; exact mN rfl (.inr ⟨_,_,_,_,rfl,rfl⟩)
include S C in
theorem Chg.nodup' {h blk} (hm:wm m1 h=some blk):(Ob β' h (fp' h) blk).Nodup:=by
 rcases C.ob S hm with ⟨_,b0,h0,⟨_,e⟩ | e⟩ | ⟨hs,b0,h0,e⟩
 ·rw [e]; exact List.nodup_nil
 ·rw [e]; exact S.nodup h b0 h0
 ·rw [e]; exact C.nodup h b0 hs h0
include S C in
theorem Chg.free' {h blk} (hm:wm m1 h=some blk):∀ x ∈ Ob β' h (fp' h) blk,¬ c.G x:=by
 rcases C.ob S hm with ⟨_,b0,h0,⟨_,e⟩ | e⟩ | ⟨hs,b0,h0,e⟩
 ·rw [e]; simp
 ·rw [e]; exact S.free h b0 h0
 ·rw [e]; exact C.free h b0 hs h0
include S C in
theorem Chg.disj' {h h' blk blk'} (hm:wm m1 h=some blk) (hm':wm m1 h'=some blk') (hne:h ≠ h'):∀ x ∈ Ob β' h (fp' h) blk,x ∉ Ob β' h' (fp' h') blk':=by
 rcases C.ob S hm with ⟨hs,b0,h0,⟨_,e⟩ | e⟩ | ⟨hs,b0,h0,e⟩
 ·rw [e]; simp
 ·rcases C.ob S hm' with ⟨hs',b0',h0',⟨_,e'⟩ | e'⟩ | ⟨hs',b0',h0',e'⟩
  ·rw [e']; simp
  ·rw [e,e']; exact S.disj h h' b0 b0' h0 h0' hne
  ·rw [e,e']; exact fun x hx hx'=>C.old h' b0' hs' h0' x hx' h b0 hs h0 hx
 ·rcases C.ob S hm' with ⟨hs',b0',h0',⟨_,e'⟩ | e'⟩ | ⟨hs',b0',h0',e'⟩
  ·rw [e']; simp
  ·rw [e,e']; exact fun x hx hx'=>C.old h b0 hs h0 x hx h' b0' hs' h0' hx'
  ·rw [e,e']; exact C.apart h b0 h' b0' hs h0 hs' h0' hne
include S C in
theorem Chg.limG {x:Nat × Nat} (hG:c.G x.1):Lim (wm m1) β' x:=by
 refine ⟨?_,?_⟩
 ·rintro ⟨h,ty,vs,hm,hb⟩;exact C.free' S hm x.1 (by simp [Ob,hb]) hG
 ·intro h e k d R n cc hm hb;exact absurd hG (C.free' S hm x.1 (by simp [Ob,hb]))
include S C in
theorem Chg.ownOk {h e k R} (hm:m1 h=some (.own e k true R)):BlkOk w' (wm m1) β' c h (fp' h) (.own e k true R):=by
 by_cases hs:stay h
 ·obtain ⟨q1,q2,q3⟩:=C.m h hs;rw [hm] at q1;obtain ⟨p1,p2,p3⟩:=S.mem h _ q1.symm;have hh:=C.heap h _ hs q1.symm;refine ⟨p1,p2,?_⟩;rw [q2,q3];rcases p3 with p3 | ⟨b,cap,cs,f0,r1,r2,r3,r4,r5,r6,r7,r8⟩
  ·exact .inl p3
  ·have e0:fp h=f0:=r7 rfl;refine .inr ⟨b,cap,cs,f0,r1,?_,r3,r4,r5,r6.keep fun x hx=>?_,r7,by simp⟩
   ·rw [hh b (by simp [Ob,r1])]; exact r2
   ·have:=hh x.1 (by simp only [Ob,r1,List.mem_append,List.mem_map]; exact .inr ⟨x,by rw [e0]; exact hx,rfl⟩)
    exact ⟨.of_same this,fun _=>this⟩
 ·rcases C.new h _ hs hm with ⟨e0,_⟩ | ⟨e',k',R',e0,hb⟩ | ⟨_,_,e0,_⟩
  ·cases e0
  rotate_left
  ·cases e0
  ·cases e0;obtain ⟨p1,p2,p3⟩:=hb;refine ⟨p1,p2,?_⟩;rcases p3 with p3 | ⟨b,cap,cs,f0,r1,r2,r3,r4,r5,r6,r7,r8⟩
   ·exact .inl p3
   ·exact .inr ⟨b,cap,cs,f0,r1,r2,r3,r4,r5,r6,r7,by simp⟩
include S C in
theorem Chg.rel1 {x v} (h:RelL w s.m β c [x] [v]):RelL w' (wm m1) β' c [x.wipe1 m1] [v]:=by
 have F:∀ fp:List (Nat × Nat),(∀ z ∈ fp,c.may true z) -> ∀ z ∈ fp,w'.heap[z.1]? = w.heap[z.1]? /\ Lim (wm m1) β' z:=by
  intro fp hfp z hz;rcases hfp z hz with hF | ⟨hF,_⟩
  ·have:=S.fg z hF;exact ⟨C.G _ this,C.limG S this⟩
  ·cases hF
 cases h with
 | int _=>exact .int .lnil
 | bool _=>exact .bool .lnil
 | str h1 _=>exact .str h1 .lnil
 | raw h1 _=>exact .raw h1 .lnil
 | nil _=>exact .nil .lnil
 | @sl ext _ _ _ _ _ h1 _ =>
  cases ext with
  | false=>exact .junk .lnil
  | true =>
   obtain ⟨t,f,hr,hl⟩:=h1;have:=F f fun z hz=>(hl z hz).2;exact .sl ⟨t,f,hr.keep fun z hz=>⟨.of_same (this z hz).1,by simp⟩,fun z hz=>⟨(this z hz).2,(hl z hz).2⟩⟩ .lnil
 | @bptr ext ds a _ _ h1 _ =>
  cases ext with
  | false=>exact .junk .lnil
  | true =>
   obtain ⟨b,o,cs,ty,fr,vs,f,ha,hb,hc,hr,hl⟩:=h1;have:=F _ fun z hz=>(hl z hz).2;refine .bptr ⟨b,o,cs,ty,fr,vs,f,ha,?_,hc,hr.keep fun z hz=>⟨.of_same (this z (by simp [hz])).1,by simp⟩,fun z hz=>⟨(this z hz).2,(hl z hz).2⟩⟩ .lnil
   rw [(this (b,o+vs.length) (by simp)).1]; exact hb
 | @own h k rows _ _ _ h1 h2 h3 _ =>
  show RelL w' (wm m1) β' c [match m1 h with | some (.own _ k true R)=>.own h k R | _=>.junk] [v]
  split
  ·rename_i e k' R hm;obtain ⟨d0,R0,h0⟩:=C.own h e k' R h1 hm;obtain ⟨q1,q2⟩:=h3 _ _ _ _ h0;have hw:wm m1 h=some (.own e k' true R):=by simp [wm,hm,Blk.wipe]
   have:=iu (fps:=fp') hw (C.ownOk S hm) (C.nodup' S hw) (fun h' blk' hm' hne=>C.disj' S hw hm' (Ne.symm hne)) (C.free' S hw);rw [(C.some_ h h1).2,<- q1] at this;exact this
  ·exact .junk .lnil
 | ptr h1 h2 _ =>
  obtain ⟨q1,q2⟩:=C.some_ _ h1;refine .ptr ?_ (q2.trans h2) .lnil;obtain ⟨b,hb⟩:=Option.isSome_iff_exists.1 q1;simp [wm,hb]
 | agg=>exact .junk .lnil
 | tup=>exact .junk .lnil
 | clo=>exact .junk .lnil
 | slf=>exact .junk .lnil
 | sub=>exact .junk .lnil
 | eptr=>exact .junk .lnil
 | sptr=>exact .junk .lnil
 | junk=>exact .junk .lnil
include S C in
theorem Chg.rels1:∀ {xs vs},RelL w s.m β c xs vs->RelL w' (wm m1) β' c (xs.map (AV.wipe1 m1)) vs:=by
 intro xs
 induction xs with
 | nil=>intro vs h; cases h; exact .lnil
 | cons x xs ih =>
  intro vs h;obtain ⟨v,vs',rfl,h1,h2⟩:=h.uncons;exact (C.rel1 S h1).append (ih h2)
include S C in
theorem Chg.relV {x v} (h:RelL w s.m β c [x] [v]):RelL w' (wm m1) β' c [x.wipeV m1] [v]:=by
 unfold AV.wipeV;split
 ·cases h with
  | agg h1 h2 _=>exact .agg (C.rels1 S h1) h2 .lnil
 ·cases h with
  | clo h1 _=>exact .clo (C.rels1 S h1) .lnil
 ·exact C.rel1 S h
include S C in
theorem Chg.relsV:∀ {xs vs},RelL w s.m β c xs vs->RelL w' (wm m1) β' c (xs.map (AV.wipeV m1)) vs:=by
 intro xs
 induction xs with
 | nil=>intro vs h; cases h; exact .lnil
 | cons x xs ih =>
  intro vs h;obtain ⟨v,vs',rfl,h1,h2⟩:=h.uncons;exact (C.relV S h1).append (ih h2)
include S C in
theorem Chg.rel {x v} (h:RelL w s.m β c [x] [v]):RelL w' (wm m1) β' c [x.wipe m1] [v]:=by
 unfold AV.wipe;split
 ·cases h with
  | tup h1 _=>exact .tup (C.relsV S h1) .lnil
 ·exact C.relV S h
include S C in
theorem Chg.sat:SatI c (s.wipe m1) a w' β' fp':=by
 refine ⟨?_,?_,fun h blk hm=>C.nodup' S hm,fun h h' blk blk' hm hm' hne=>C.disj' S hm hm' hne,fun h blk hm=>C.free' S hm,S.fg,fun b hG=>⟨(S.old b hG).1,(C.G b hG).trans (S.old b hG).2⟩,
  C.os.trans S.os,C.tape.trans S.tape,C.output.trans S.output,Nat.le_trans S.size C.size,S.defers,S.tn,?_⟩
 ·intro t g av ht;simp only [St.wipe,Option.map_eq_some_iff] at ht;obtain ⟨⟨g0,av0⟩,h0,he⟩:=ht;cases he;obtain ⟨q1,q2,q3⟩:=S.env t g0 av0 h0;exact ⟨q1,fun hg=>C.rel S (q2 hg),fun hg=>⟨(q3 hg).1,Qs C.some' (q3 hg).2⟩⟩
 ·intro h blk hm;replace hm:wm m1 h=some blk:=hm;cases blk with
  | own e k d R =>
   obtain ⟨rfl,hm1⟩:=QG hm;exact C.ownOk S hm1
  | box ty vs =>
   obtain ⟨us,hm1,rfl⟩:=QF hm;by_cases hs:stay h
   rotate_left
   ·rcases C.new h _ hs hm1 with ⟨e0,_⟩ | ⟨_,_,_,e0,_⟩ | ⟨_,_,e0,hb⟩
    ·cases e0
    ·cases e0
    ·cases e0; exact hb
   obtain ⟨q1,q2,q3⟩:=C.m h hs;rw [hm1] at q1;obtain ⟨p0,b,cvs,r1,r2,r3,r4⟩:=S.mem h _ q1.symm;refine ⟨by rw [q3]; exact p0,b,cvs,by rw [q2]; exact r1,?_,C.rels1 S r3,r4⟩
   rw [C.heap h _ hs q1.symm b (by simp [Ob,r1])]; exact r2
  | dead =>
   show fp' h=[]
   by_cases hs:stay h
   ·obtain ⟨q1,q2,q3⟩:=C.m h hs;rw [q3];cases hb:s.m h with
    | none=>rw [hb] at q1; simp [wm,q1] at hm
    | some b =>
     rw [hb] at q1;simp only [wm,q1,Option.map_some,Option.some.injEq] at hm;cases b with
     | own e k d R =>
      cases d with
      | true=>simp [Blk.wipe] at hm
      | false =>
       obtain ⟨_,_,h3⟩:=S.mem h _ hb;rcases h3 with ⟨_,_,h3⟩ | ⟨_,_,_,_,_,_,_,_,_,_,_,h8⟩
       ·exact h3
       ·exact (h8 rfl).1
     | box ty vs=>simp [Blk.wipe] at hm
     | dead=>exact S.mem h _ hb
   ·cases hb:m1 h with
    | none=>simp [wm,hb] at hm
    | some b =>
     rcases C.new h b hs hb with ⟨_,q⟩ | ⟨e,k,R,rfl,_⟩ | ⟨_,_,rfl,_⟩
     ·exact q
     ·simp [wm,hb,Blk.wipe] at hm
     ·simp [wm,hb,Blk.wipe] at hm
 ·intro p hp;obtain ⟨h1,h2⟩:=S.pin p hp;obtain ⟨q1,q2⟩:=C.some_ _ h2;refine ⟨q2.trans h1,?_⟩;obtain ⟨b,hb⟩:=Option.isSome_iff_exists.1 q1;simp [St.wipe,hb]
end
def AV.mv (m:Nat->Option Blk):TK->AV->Option (D × List Nat)
 | .sl e k,.own h _ _=>match m h with
  | some (.own e' k' true R)=>if e=e'/\k=k' then some (.sl e k R,[h]) else none
  | _=>none
 | t,v=>if v.deepOk then (match v.toD t with | some d=>some (d,[]) | none=>none) else none
def mvL (m:Nat->Option Blk):List TK->List AV->Option (List D × List Nat)
 | [],[]=>some ([],[])
 | t :: ts,v :: vs=>match v.mv m t,mvL m ts vs with
  | some (d,h),some (ds,hs)=>some (d :: ds,h++hs)
  | _,_=>none
 | _,_=>none
def eC (m:Nat->Option Blk) (h:Nat):Blk:=(m h).getD .dead
def bz:List Nat->(Nat->Option Blk)->Nat->Option Blk
 | [],m=>m
 | h :: hs,m=>upd (bz hs m) h (some .dead)
theorem eE {hs:List Nat} {m:Nat->Option Blk} {h} (hh:h ∈ hs):bz hs m h=some .dead:=by
 induction hs with
 | nil=>cases hh
 | cons x hs ih =>
  unfold bz;by_cases e:h=x
  ·subst e; simp
  ·rw [upd_ne _ _ e];rcases List.mem_cons.1 hh with hh | hh
   ·exact absurd hh e
   ·exact ih hh
theorem dD {hs:List Nat} {m:Nat->Option Blk} {h} (hh:h ∉ hs):bz hs m h=m h:=by
 induction hs with
 | nil=>rfl
 | cons x hs ih =>
  unfold bz;simp only [List.mem_cons,not_or] at hh;rw [upd_ne _ _ hh.1];exact ih hh.2
def setRow (k:Nat) (R:List (List D)) (i off:Nat) (ds:List D):List (List D) :=
 if off=0/\ds.length=k then R.set i ds else R.set i ((R.getD i []).take off++(ds++(R.getD i []).drop (off+ds.length)))
theorem lg {k:Nat} {R:List (List D)} (hR:∀ r ∈ R,r.length=k) {i off:Nat} {ds:List D} (hi:i < R.length) :
  setRow k R i off ds=R.set i ((R.getD i []).take off++(ds++(R.getD i []).drop (off+ds.length))):=by
 unfold setRow;split
 ·rename_i h;obtain ⟨rfl,h⟩:=h;have hl:(R.getD i []).length=k:=by
   rw [List.getD_eq_getElem?_getD,List.getElem?_eq_getElem hi];exact hR _ (List.getElem_mem hi)
  congr 1
  rw [List.drop_eq_nil_of_le (by omega)]
  simp
 ·rfl
theorem vt {α:Type} {k:Nat}:∀ {R:List (List α)},(∀ r ∈ R,r.length=k) -> ∀ {i off:Nat} {ds:List α} (_:i < R.length),off+ds.length<=k ->
  (R.set i ((R.getD i []).take off++(ds++(R.getD i []).drop (off+ds.length)))).flatten=R.flatten.take (i * k+off)++(ds++R.flatten.drop (i * k+off+ds.length)):=by
 intro R
 induction R with
 | nil=>intro _ i off ds hi; simp at hi
 | cons r R ih =>
  intro hR i off ds hi ho;have hr:r.length=k:=hR r (by simp)
  cases i with
  | zero =>
   simp only [List.set_cons_zero,List.getD_cons_zero,List.flatten_cons,Nat.zero_mul,Nat.zero_add];rw [List.take_append_of_le_length (by omega),List.drop_append_of_le_length (by omega)]
   simp
  | succ i =>
   simp only [List.set_cons_succ,List.getD_cons_succ,List.flatten_cons];rw [ih (fun r hr=>hR r (by simp [hr])) (by simpa using hi) ho]
   have e1:(i+1) * k+off=r.length+(i * k+off):=by rw [hr,Nat.succ_mul]; omega
   have e2:(i+1) * k+off+ds.length=r.length+(i * k+off+ds.length):=by rw [hr,Nat.succ_mul]; omega
   rw [e2,e1,List.take_length_add_append,List.drop_length_add_append];simp
theorem rG {k:Nat} {R:List (List D)} (hR:∀ r ∈ R,r.length=k) {i off:Nat} {ds:List D} (hi:i < R.length) (ho:off+ds.length<=k):∀ r ∈ setRow k R i off ds,r.length=k:=by
 rw [lg hR hi];intro r hr;rcases List.mem_or_eq_of_mem_set hr with hr | rfl
 ·exact hR r hr
 ·have hl:(R.getD i []).length=k:=by
   rw [List.getD_eq_getElem?_getD,List.getElem?_eq_getElem hi];exact hR _ (List.getElem_mem hi)
  simp only [List.length_append,List.length_take,List.length_drop];omega
section
variable {w:World} {c:Cx} {s:St} {a:Act} {β:Nat->Value} {fp:Nat->List (Nat × Nat)} (S:SatI c s a w β fp)
include S
theorem Lx {t v u d hs} (h:RelL w s.m β c [v] [u]) (hm:v.mv s.m t=some (d,hs)) :
  u.oneCell'=true/\(∀ h ∈ hs,∃ e k R,s.m h=some (.own e k true R)) /\ ∃ f,RdL true w [d] [u] f/\f.map (·.1)=hs.flatMap fun h=>Ob β h (fp h) (eC s.m h):=by
 unfold AV.mv at hm;split at hm
 ·rename_i e k g kk rr;split at hm
  ·rename_i e' k' R hg;split at hm
   ·rename_i hek;obtain ⟨rfl,rfl⟩:=hek;cases hm;cases h with
    | own _ _ h3 _ =>
     obtain ⟨rfl,_⟩:=h3 _ _ _ _ hg;obtain ⟨hk,hR,h4⟩:=S.mem g _ hg;refine ⟨?_,fun x hx=>?_,?_⟩
     ·rcases h4 with ⟨q1,_⟩ | ⟨b,cap,cs,f0,q1,_⟩ <;> rw [q1] <;> rfl
     ·simp only [List.mem_singleton] at hx;subst hx;exact ⟨_,_,_,hg⟩
     ·rcases h4 with ⟨q1,q2,q3⟩ | ⟨b,cap,cs,f0,q1,q2,q3,q4,q5,q6,q7,q8⟩
      ·subst q2;refine ⟨[],by rw [q1]; exact .sl0 (by unfold maxLen; omega) (by simp) .nil,?_⟩
       simp [eC,hg,Ob,q1,q3]
      ·refine ⟨(b,0+(cs.toList.take (R.length * k)).length) :: (f0++[]),?_,?_⟩
       ·rw [q1];exact .sl rfl (.inl ⟨rfl,hk⟩) q3 q4 hR q2 (fun _=>⟨rfl,rfl,rfl,q5⟩) (fun j u hu=>by
         rw [List.getElem?_take] at hu;split at hu
         ·simpa using hu
         ·cases hu) q6 .nil
       ·simp [eC,hg,Ob,q1,q7 rfl]
   ·cases hm
  ·cases hm
 ·split at hm
  ·rename_i hdp;split at hm
   ·rename_i d' hd';cases hm;obtain ⟨q1,_,_,_,_,q3⟩:=xM h hd';exact ⟨q1,by simp,[],q3 hdp,by simp⟩
   ·cases hm
  ·cases hm
theorem wZ:∀ {ts vs us ds hs},RelL w s.m β c vs us->mvL s.m ts vs=some (ds,hs) ->
  (∀ u ∈ us,u.oneCell'=true)/\(∀ h ∈ hs,∃ e k R,s.m h=some (.own e k true R)) /\ ∃ f,RdL true w ds us f/\f.map (·.1)=hs.flatMap fun h=>Ob β h (fp h) (eC s.m h):=by
 intro ts
 induction ts with
 | nil =>
  intro vs us ds hs h hm;cases vs with
  | nil=>cases hm; cases h; exact ⟨by simp,by simp,[],.nil,rfl⟩
  | cons=>cases hm
 | cons t ts ih =>
  intro vs us ds hs h hm;cases vs with
  | nil=>cases hm
  | cons v vs =>
   unfold mvL at hm;split at hm
   ·rename_i d h1 ds2 h2 hd hds;cases hm;obtain ⟨u,us',rfl,r1,r2⟩:=h.uncons;obtain ⟨a1,a2,f1,a3,a4⟩:=Lx S r1 hd;obtain ⟨b1,b2,f2,b3,b4⟩:=ih r2 hds;refine ⟨fun x hx=>?_,fun x hx=>?_,f1++f2,a3.append b3,?_⟩
    ·rcases List.mem_cons.1 hx with rfl | hx
     ·exact a1
     ·exact b1 x hx
    ·rcases List.mem_append.1 hx with hx | hx
     ·exact a2 x hx
     ·exact b2 x hx
    ·simp [a4,b4]
   ·cases hm
theorem Bv {hs:List Nat} (hn:hs.Nodup) (hd:∀ h ∈ hs,(s.m h).isSome=true) :
  (hs.flatMap fun h=>Ob β h (fp h) (eC s.m h)).Nodup/\(∀ x ∈ (hs.flatMap fun h=>Ob β h (fp h) (eC s.m h)),¬ c.G x) /\
  (∀ g blk,g ∉ hs->s.m g=some blk -> ∀ x ∈ (hs.flatMap fun h=>Ob β h (fp h) (eC s.m h)),x ∉ Ob β g (fp g) blk)/\(∀ x ∈ (hs.flatMap fun h=>Ob β h (fp h) (eC s.m h)),x < w.heap.size):=by
 have key:∀ h ∈ hs,∃ b,s.m h=some b/\eC s.m h=b:=by
  intro h hh;obtain ⟨b,hb⟩:=Option.isSome_iff_exists.1 (hd h hh);exact ⟨b,hb,by simp [eC,hb]⟩
 refine ⟨?_,?_,?_,?_⟩
 ·induction hs with
  | nil=>simp
  | cons h hs ih =>
   simp only [List.nodup_cons] at hn;simp only [List.flatMap_cons];obtain ⟨b,hb,hbo⟩:=key h (by simp)
   rw [List.nodup_append];refine ⟨by rw [hbo]; exact S.nodup h b hb,ih hn.2 (fun g hg=>hd g (by simp [hg])) (fun g hg=>key g (by simp [hg])),?_⟩
   intro x hx y hy e;subst e;obtain ⟨g,hg,hxg⟩:=List.mem_flatMap.1 hy;obtain ⟨b',hb',hbo'⟩:=key g (by simp [hg])
   rw [hbo] at hx;rw [hbo'] at hxg;exact S.disj h g b b' hb hb' (by intro e; subst e; exact hn.1 hg) x hx hxg
 ·intro x hx;obtain ⟨g,hg,hxg⟩:=List.mem_flatMap.1 hx;obtain ⟨b',hb',hbo'⟩:=key g hg;rw [hbo'] at hxg;exact S.free g b' hb' x hxg
 ·intro g blk hg hgb x hx hxg;obtain ⟨h,hh,hxh⟩:=List.mem_flatMap.1 hx;obtain ⟨b',hb',hbo'⟩:=key h hh;rw [hbo'] at hxh;exact S.disj h g b' blk hb' hgb (by intro e; subst e; exact hg hh) x hxh hxg
 ·intro x hx;obtain ⟨g,hg,hxg⟩:=List.mem_flatMap.1 hx;obtain ⟨b',hb',hbo'⟩:=key g hg;rw [hbo'] at hxg;exact (S.mem g b' hb').lt x hxg
end
def j7 (T:Nat->Option TI) (t:Nat) (s:St) (h i off:Nat) (x:AV) (K:St->Prop):Prop :=
 match T t,s.m h with
 | some ti,some (.own e k true R)=>match nZ ti x with
  | some vs=>match mvL s.m ti.cells vs with
   | some (ds,hs)=>i < R.length/\off+ds.length<=k/\h ∉ hs/\hs.Nodup/\K (s.wipe (bz hs (upd s.m h (some (.own e k true (setRow k R i off ds))))))
   | none=>False
  | none=>False
 | _,_=>False
section
variable {P:Program} {T:Nat->Option TI} (hT:∀ t ti,T t=some ti->TOk P t ti) {w:World} {c:Cx} {s:St} {a:Act} {β:Nat->Value} {fp:Nat->List (Nat × Nat)}
 (S:SatI c s a w β fp)
include S in
theorem SatI.setOwn {h e k:Nat} {R R':List (List D)} {b cap:Nat} {f0 f':List (Nat × Nat)} {hs:List Nat} {L':List Value} {w':World} (hm:s.m h=some (.own e k true R)) (hb:β h = .slice (some ⟨b,0,none⟩) R.length cap)
  (hf0:fp h=f0) (hlen:R'.length=R.length) (hR':∀ r ∈ R',r.length=k) (hcap:R.length<=cap) (hmax:cap<=maxLen) (hsz:L'.length=cap * k)
  (hhs:∀ g ∈ hs,∃ e k R,s.m g=some (.own e k true R)) (hn:hs.Nodup) (hhn:h ∉ hs)
  (h1:w'.heap[b]? = some (.cells L'.toArray e (0,0))) (h2:∀ k,k ≠ b->w'.heap[k]? = w.heap[k]?) (h3:w'.heap.size=w.heap.size) (h4:w'.os=w.os) (h5:w'.tape=w.tape) (h6:w'.output=w.output)
  (hr:RdL true w R'.flatten (L'.take (R.length * k)) f')
  (hf:∃ f1 f2 fm:List (Nat × Nat),f'=f1++(fm++f2)/\(f1++f2).Sublist f0/\fm.map (·.1)=hs.flatMap fun h=>Ob β h (fp h) (eC s.m h)) :
  SatI c (s.wipe (bz hs (upd s.m h (some (.own e k true R'))))) a w' β (fun g=>if g=h then f' else if g ∈ hs then [] else fp g):=by
 obtain ⟨f1,f2,fm,e1,e2,e3⟩:=hf;have hsome:∀ g ∈ hs,(s.m g).isSome=true:=fun g hg=>by obtain ⟨_,_,_,q⟩:=hhs g hg; rw [q]; rfl
 obtain ⟨m1,m2,m3,m4⟩:=Bv S hn hsome;have hkk:0 < k:=(S.mem h _ hm).1;have hbo:b ∈ Ob β h (fp h) (.own e k true R):=by simp [Ob,hb]
 have hnodup:=S.nodup h _ hm;have hmem:∀ z ∈ f',z ∈ f0 \/ z.1 ∈ (hs.flatMap fun h=>Ob β h (fp h) (eC s.m h)):=by
  intro z hz;rw [e1] at hz;simp only [List.mem_append] at hz;rcases hz with hz | hz | hz
  ·exact .inl (e2.subset (by simp [hz]))
  ·refine .inr ?_;rw [<- e3];exact List.mem_map.2 ⟨z,hz,rfl⟩
  ·exact .inl (e2.subset (by simp [hz]))
 have hob:∀ x ∈ Ob β h f' (.own e k true R'),x ∈ Ob β h (fp h) (.own e k true R) \/ x ∈ (hs.flatMap fun h=>Ob β h (fp h) (eC s.m h)):=by
  intro x hx;simp only [Ob,hb,List.cons_append,List.nil_append,List.mem_cons,List.mem_map] at hx ⊢;rcases hx with rfl | ⟨z,hz,rfl⟩
  ·exact .inl (.inl rfl)
  ·rcases hmem z hz with hz | hz
   ·exact .inl (.inr ⟨z,by rw [hf0]; exact hz,rfl⟩)
   ·exact .inr hz
 have hnb:∀ z ∈ f',z.1 ≠ b:=by
  intro z hz e;rcases hmem z hz with hz | hz
  ·simp only [Ob,hb,List.cons_append,List.nil_append,List.nodup_cons,List.mem_map,not_exists,not_and] at hnodup;exact hnodup.1 z (by rw [hf0]; exact hz) e
  ·exact m3 h _ hhn hm z.1 hz (by rw [e]; exact hbo)
 have hr':RdL true w' R'.flatten (L'.take (R.length * k)) f':=hr.keep fun z hz=>⟨.of_same (h2 _ (hnb z hz)),fun _=>h2 _ (hnb z hz)⟩;have hk:∀ g,g ≠ h->g ∉ hs->bz hs (upd s.m h (some (.own e k true R'))) g=s.m g:=by
  intro g hg hg';rw [dD hg',upd_ne _ _ hg]
 have hkh:bz hs (upd s.m h (some (.own e k true R'))) h=some (.own e k true R'):=by rw [dD hhn,upd_same]
 have hnew:∀ g blk,¬ (g ≠ h/\g ∉ hs)->bz hs (upd s.m h (some (.own e k true R'))) g=some blk->(g=h/\blk = .own e k true R') \/ (g ∈ hs/\g ≠ h/\blk = .dead):=by
  intro g blk hg hgm;by_cases hgh:g=h
  ·subst hgh;rw [hkh] at hgm;cases hgm;exact .inl ⟨rfl,rfl⟩
  ·have:g ∈ hs:=Classical.byContradiction fun hc=>hg ⟨hgh,hc⟩;rw [eE this] at hgm;cases hgm;exact .inr ⟨this,hgh,rfl⟩
 have hdead:∀ g,g ∈ hs->g ≠ h->Ob β g (if g=h then f' else if g ∈ hs then [] else fp g) .dead=[]:=by
  intro g hg hgh;simp [Ob,hgh,hg]
 refine Chg.sat (stay:=fun g=>g ≠ h/\g ∉ hs) S ⟨fun x hG=>h2 x fun e=>?_,by omega,h4,h5,h6,fun g hg=>⟨hk g hg.1 hg.2,rfl,by simp [hg.1,hg.2]⟩,fun g blk hg hgm x hx=>h2 x fun e=>?_,?_,?_,?_,?_,?_,?_,?_⟩
 ·subst e;exact S.free h _ hm x hbo hG
 ·subst e;exact S.disj g h _ _ hgm hm hg.1 x hx hbo
 ·intro g blk hg hgm;rcases hnew g blk hg hgm with ⟨rfl,rfl⟩ | ⟨q1,q2,rfl⟩
  ·refine .inr (.inl ⟨e,k,R',rfl,hkk,hR',.inr ⟨b,cap,L'.toArray,f',by rw [hlen]; exact hb,h1,by omega,hmax,by simpa using hsz,?_,by simp,by simp⟩⟩)
   rw [hlen]; exact hr'
  ·exact .inl ⟨rfl,by simp [q1,q2]⟩
 ·intro g blk hg hgm;rcases hnew g blk hg hgm with ⟨rfl,rfl⟩ | ⟨q1,q2,rfl⟩
  ·simp only [if_true,Ob,hb,List.cons_append,List.nil_append,List.nodup_cons];refine ⟨?_,?_⟩
   ·simp only [List.mem_map,not_exists,not_and];exact fun z hz e=>hnb z hz e
   ·rw [e1];simp only [List.map_append];have hn0:(f0.map (·.1)).Nodup:=by
     simp only [Ob,hb,List.cons_append,List.nil_append,List.nodup_cons] at hnodup;rw [<- hf0]; exact hnodup.2
    have hn12:((f1++f2).map (·.1)).Nodup:=(e2.map _).nodup hn0;rw [List.map_append,List.nodup_append] at hn12;have hdis:∀ z ∈ f1++f2,z.1 ∉ fm.map (·.1):=by
     intro z hz hc;rw [e3] at hc;exact m3 g _ hhn hm z.1 hc (by simp only [Ob,List.mem_append,List.mem_map]; exact .inr ⟨z,by rw [hf0]; exact e2.subset hz,rfl⟩)
    rw [List.nodup_append,List.nodup_append];refine ⟨hn12.1,⟨by rw [e3]; exact m1,hn12.2.1,?_⟩,?_⟩
    ·intro x hx y hy e;subst e;obtain ⟨z,hz,rfl⟩:=List.mem_map.1 hy;exact hdis z (by simp [hz]) hx
    ·intro x hx y hy e;subst e;rcases List.mem_append.1 hy with hy | hy
     ·obtain ⟨z,hz,rfl⟩:=List.mem_map.1 hx;exact hdis z (by simp [hz]) hy
     ·exact hn12.2.2 x hx x hy rfl
  ·rw [hdead g q1 q2]; exact List.nodup_nil
 ·intro g blk hg hgm x hx;rcases hnew g blk hg hgm with ⟨rfl,rfl⟩ | ⟨q1,q2,rfl⟩
  ·simp only [if_true] at hx;rcases hob x hx with hx | hx
   ·exact S.free g _ hm x hx
   ·exact m2 x hx
  ·rw [hdead g q1 q2] at hx; cases hx
 ·intro g blk hg hgm x hx h' blk' hst hm';rcases hnew g blk hg hgm with ⟨rfl,rfl⟩ | ⟨q1,q2,rfl⟩
  ·simp only [if_true] at hx;rcases hob x hx with hx | hx
   ·exact S.disj g h' _ _ hm hm' (Ne.symm hst.1) x hx
   ·exact m3 h' _ hst.2 hm' x hx
  ·rw [hdead g q1 q2] at hx; cases hx
 ·intro g blk g' blk' hg hgm hg' hgm' hne x hx hx';rcases hnew g blk hg hgm with ⟨rfl,rfl⟩ | ⟨q1,q2,rfl⟩
  ·rcases hnew g' blk' hg' hgm' with ⟨rfl,rfl⟩ | ⟨q1',q2',rfl⟩
   ·exact hne rfl
   ·rw [hdead g' q1' q2'] at hx'; cases hx'
  ·rw [hdead g q1 q2] at hx; cases hx
 ·intro g hg;refine ⟨?_,rfl⟩;by_cases hgs:g ∈ hs
  ·rw [eE hgs]; rfl
  ·by_cases hgh:g=h
   ·subst hgh; rw [hkh]; rfl
   ·rw [hk g hgh hgs]; exact hg
 ·intro g e2 k2 R2 hg hgm;by_cases hgs:g ∈ hs
  ·rw [eE hgs] at hgm; cases hgm
  ·by_cases hgh:g=h
   ·subst hgh;rw [hkh] at hgm;cases hgm;exact ⟨true,R,hm⟩
   ·rw [hk g hgh hgs] at hgm; exact ⟨true,R2,hgm⟩
include hT S in
theorem CO {t h i off x v K ad} (hq:∀ e k d R,s.m h=some (.own e k d R)->i < R.length -> ∃ b n c,β h = .slice (some ⟨b,0,none⟩) n c/\ad=⟨b,i * k+off,none⟩) (hx:RelL w s.m β c [x] [v]) (hk:j7 T t s h i off x K) :
  ∃ w' s' fp',(Instr.storeAt t (.pointer (some ad)) v).run P w = .ok () w'/\K s'/\SatI c s' a w' β fp':=by
 unfold j7 at hk;split at hk
 ·rename_i ti e k R ht hm;split at hk
  ·rename_i vs hvs;split at hk
   ·rename_i ds hs hmv;obtain ⟨hi,ho,hhn,hn,hK⟩:=hk;obtain ⟨hl,uv,u1,u2,u3⟩:=BZ hx hvs;obtain ⟨v1,v2,fm,v3,v4⟩:=wZ S u2 hmv;obtain ⟨b,n,cp,hb,rfl⟩:=hq e k true R hm hi;obtain ⟨hkk,hR,h4⟩:=S.mem h _ hm;rcases h4 with ⟨q1,q2,q3⟩ | ⟨b',cap,cs,f0,q1,q2,q3,q4,q5,q6,q7,q8⟩
    ·subst q2; simp at hi
    ·rw [q1] at hb;cases hb;have hdl:ds.length=uv.length:=v3.length;have hle:i * k+off+uv.length<=R.length * k:=by
      have:i * k+k<=R.length * k:=by rw [<- Nat.succ_mul]; exact Nat.mul_le_mul_right k hi
      omega
     have hle2:R.length * k<=cp * k:=Nat.mul_le_mul_right k q3;have hcs:cs.toList.toArray=cs:=by simp
     have hcl:cs.toList.length=cp * k:=by simpa using q5
     have q2':w.heap[b]? = some (.cells cs.toList.toArray e (0,0)):=by rw [hcs]; exact q2
     obtain ⟨r1,r2,r3,r4,r5,r6⟩:=fT b uv (i * k+off) w cs.toList e (0,0) q2' (by omega)
     have hcell:∀ j,j < uv.length->(w.cell? ⟨b,i * k+off+j,none⟩).isSome=true/\w.frozen? ⟨b,i * k+off+j,none⟩=false:=by
      intro j hj;refine ⟨?_,?_⟩
      ·rw [World.cell_of q2];simp;have:cs.size=cp * k:=q5;omega
      ·simp [World.frozen?,q2]
     have hset:=lg hR (off:=off) (ds:=ds) hi;have hfl:(setRow k R i off ds).flatten=R.flatten.take (i * k+off)++(ds++R.flatten.drop (i * k+off+ds.length)):=by rw [hset]; exact vt hR hi ho
     -- the reading of the new cells
     obtain ⟨g1,g2,hg,ra,rb⟩:=RdL.split (i * k+off) q6;obtain ⟨g3,g4,hg',rc,rd⟩:=RdL.split ds.length rb;have hL:((cs.toList.take (i * k+off)++(uv++cs.toList.drop (i * k+off+uv.length))).take (R.length * k)) =
       (cs.toList.take (R.length * k)).take (i * k+off)++(uv++((cs.toList.take (R.length * k)).drop (i * k+off)).drop ds.length):=by
      rw [List.take_take,Nat.min_eq_left (by omega),List.drop_drop,hdl,List.take_append]
      have e1:(cs.toList.take (i * k+off)).length=i * k+off:=by rw [List.length_take]; omega
      rw [e1,List.take_append,List.drop_take]
      congr 1
      ·rw [List.take_take,Nat.min_eq_right (by omega)]
      ·congr 1
       ·exact List.take_of_length_le (by omega)
       ·congr 1; omega
     have hrd:=ra.append (v3.append rd);rw [List.drop_drop,<- hfl,<- hL] at hrd;have hS:=S.setOwn (R':=setRow k R i off ds) (hs:=hs) (L':=cs.toList.take (i * k+off)++(uv++cs.toList.drop (i * k+off+uv.length))) hm q1 (q7 rfl) (by rw [hset]; simp) (rG hR hi ho) q3 q4
      (by simp only [List.length_append,List.length_take,List.length_drop]; omega) v2 hn hhn r1 r2 r3 r4 r5 r6 hrd ⟨g1,g4,fm,rfl,by
       rw [hg,hg'];exact (List.Sublist.refl g1).append (List.sublist_append_right g3 g4),v4⟩
     refine ⟨w.setCells b (i * k+off) uv,_,_,?_,hK,hS⟩;have hst:=run_storeCells_cells (P:=P) b (i * k+off) uv 0 w (fun j hj=>by simpa using (hcell j hj).1) (fun j hj=>by simpa using (hcell j hj).2) u3
     simp only [Nat.add_zero] at hst;have hsz:=(hT _ _ ht).size w;have hlu:=u2.length;simp only [Instr.storeAt,Instr.sureAddr,storeVar,Sem.run_bind,Sem.run_pure,Result.andThen_ok,hsz,u1];simp [<- hl,hlu,hst]
   ·exact hk.elim
  ·exact hk.elim
 ·exact hk.elim
include hT S in
theorem Nm {t h i off ds0 x v K p} (hp:RelL w s.m β c [.eptr h i off ds0] [p]) (hx:RelL w s.m β c [x] [v]) (hk:j7 T t s h i off x K) :
  ∃ w' s',(Instr.storeAt t p v).run P w = .ok () w'/\K s'/\Sat c s' a w':=by
 cases hp with
 | eptr _ _ hq _ =>
  obtain ⟨w',s',fp',q1,q2,q3⟩:=CO hT S hq hx hk;exact ⟨w',s',q1,q2,_,_,q3⟩
end
structure Regrow (c:Cx) (s:St) (w:World) (β:Nat->Value) (fp:Nat->List (Nat × Nat)) (w':World) (d:Nat) (hs:List Nat) (e k:Nat) (dp:Bool) (R:List (List D)) (v:Value) (f:List (Nat × Nat)):Prop where
 none:s.m d=none
 dead:∀ h ∈ hs,(s.m h).isSome=true
 own:∀ h ∈ hs,∀ ty vs,s.m h ≠ some (.box ty vs)
 agree:∀ x:Nat × Nat,x.1 < w.heap.size->Lim s.m β x->Agree w w' x.1 x.2
 heap:∀ h blk,s.m h=some blk->h ∉ hs -> ∀ b ∈ Ob β h (fp h) blk,w'.heap[b]? = w.heap[b]?
 G:∀ b,c.G b->w'.heap[b]? = w.heap[b]?
 size:w.heap.size<=w'.heap.size
 os:w'.os=w.os
 tape:w'.tape=w.tape
 output:w'.output=w.output
 at_:∀ b n cc,v = .slice (some ⟨b,0,Option.none⟩) n cc->w.heap.size<=b \/ ∃ h ∈ hs,∃ e0 k0 d0 R0 n0 c0,s.m h=some (.own e0 k0 d0 R0) /\ β h = .slice (some ⟨b,0,Option.none⟩) n0 c0/\R0.length * k0<=R.length * k
 new:BlkOk w' (upd (bz hs s.m) d (some (.own e k dp R))) (upd β d v) c d f (.own e k dp R)
 nodup:(Ob (upd β d v) d f (.own e k dp R)).Nodup
 from_:∀ x ∈ Ob (upd β d v) d f (.own e k dp R),w.heap.size<=x \/ ∃ h ∈ hs,∃ blk,s.m h=some blk/\x ∈ Ob β h (fp h) blk
section
variable {c:Cx} {s:St} {a:Act} {w:World} {β:Nat->Value} {fp:Nat->List (Nat × Nat)} (S:SatI c s a w β fp)
 {w':World} {d:Nat} {hs:List Nat} {e k:Nat} {dp:Bool} {R:List (List D)} {v:Value} {f:List (Nat × Nat)} (C:Regrow c s w β fp w' d hs e k dp R v f)
abbrev rm (m:Nat->Option Blk) (hs:List Nat) (d:Nat) (b:Blk):Nat->Option Blk:=upd (bz hs m) d (some b)
include C in
theorem Regrow.kinds {h blk} (hm:rm s.m hs d (.own e k dp R) h=some blk) :
  (h=d/\blk = .own e k dp R) \/ (h ≠ d/\h ∈ hs/\blk = .dead) \/ (h ≠ d/\h ∉ hs/\s.m h=some blk):=by
 by_cases he:h=d
 ·subst he; simp only [rm,upd_same,Option.some.injEq] at hm; exact .inl ⟨rfl,hm.symm⟩
 ·simp only [rm,upd_ne _ _ he] at hm;by_cases hk:h ∈ hs
  ·rw [eE hk] at hm; cases hm; exact .inr (.inl ⟨he,hk,rfl⟩)
  ·rw [dD hk] at hm; exact .inr (.inr ⟨he,hk,hm⟩)
include C in
theorem Regrow.ne {h} (hh:(s.m h).isSome=true):h ≠ d:=by intro e; subst e; rw [C.none] at hh; cases hh
include C S in
theorem Regrow.step:Step w s.m β w' (rm s.m hs d (.own e k dp R)) (upd β d v):=by
 refine ⟨C.agree,fun x hx hl=>⟨?_,?_⟩,?_,?_,?_,?_⟩
 ·rintro ⟨h,ty,vs,hm,hb⟩;rcases C.kinds hm with ⟨rfl,e⟩ | ⟨_,_,e⟩ | ⟨h1,h2,h3⟩
  ·cases e
  ·cases e
  ·rw [upd_ne _ _ h1] at hb; exact hl.1 ⟨h,ty,vs,h3,hb⟩
 ·intro h e1 k1 d1 R1 n1 c1 hm hb;rcases C.kinds hm with ⟨rfl,e⟩ | ⟨_,_,e⟩ | ⟨h1,h2,h3⟩
  ·cases e;rw [upd_same] at hb;rcases C.at_ _ _ _ hb with q | ⟨h,q1,e0,k0,d0,R0,n0,c0,q2,q3,q4⟩
   ·omega
   ·exact Nat.le_trans (hl.2 h e0 k0 d0 R0 n0 c0 q2 q3) q4
  ·cases e
  ·rw [upd_ne _ _ h1] at hb; exact hl.2 h e1 k1 d1 R1 n1 c1 h3 hb
 ·intro h hh;have:=C.ne hh;simp only [rm,upd_ne _ _ this];by_cases hk:h ∈ hs
  ·rw [eE hk]; rfl
  ·rw [dD hk]; exact hh
 ·intro h e1 k1 d1 R1 hh hm;rcases C.kinds hm with ⟨rfl,_⟩ | ⟨_,_,e⟩ | ⟨h1,h2,h3⟩
  ·exact absurd rfl (C.ne hh)
  ·cases e
  ·exact ⟨d1,R1,h3,upd_ne _ _ h1,rfl,fun i j e2 k2 rs r' q1 q2=>⟨r',q1,q2⟩⟩
 ·intro h b hh _;exact upd_ne _ _ (C.ne hh)
 ·intro h e1 k1 d1 R1 i j r x b n cc hm hex hb _ _ hlt;obtain ⟨d2,R2,hm'⟩:=hex;rcases C.kinds hm' with ⟨rfl,_⟩ | ⟨_,_,e⟩ | ⟨h1,h2,h3⟩
  ·exact absurd rfl (C.ne (by rw [hm]; rfl))
  ·cases e
  ·exact World.cell?_of_block (w:=w) (C.heap h _ hm h2 b (by simp [Ob,hb]))
include C in
theorem Regrow.ob {h blk} (hm:rm s.m hs d (.own e k dp R) h=some blk) :
  (h=d/\blk = .own e k dp R) \/ (h ≠ d/\Ob (upd β d v) h (if h=d then f else if h ∈ hs then [] else fp h) blk=[]) \/
  (h ≠ d/\h ∉ hs/\s.m h=some blk/\Ob (upd β d v) h (if h=d then f else if h ∈ hs then [] else fp h) blk=Ob β h (fp h) blk):=by
 rcases C.kinds hm with ⟨rfl,rfl⟩ | ⟨h1,h2,rfl⟩ | ⟨h1,h2,h3⟩
 ·exact .inl ⟨rfl,rfl⟩
 ·exact .inr (.inl ⟨h1,by simp [Ob,h1,h2]⟩)
 ·exact .inr (.inr ⟨h1,h2,h3,by simp only [if_neg h1,if_neg h2]; exact oN (upd_ne _ _ h1)⟩)
include C S in
theorem Regrow.sat:SatI c ⟨s.e,rm s.m hs d (.own e k dp R)⟩ a w' (upd β d v) (fun h=>if h=d then f else if h ∈ hs then [] else fp h):=by
 have T:=C.step S;have lt:∀ h blk,s.m h=some blk -> ∀ x ∈ Ob β h (fp h) blk,x < w.heap.size:=fun h blk hm=>(S.mem h _ hm).lt;refine ⟨?_,?_,?_,?_,?_,S.fg,fun b hG=>⟨(S.old b hG).1,(C.G b hG).trans (S.old b hG).2⟩,C.os.trans S.os,C.tape.trans S.tape,C.output.trans S.output,Nat.le_trans S.size C.size,S.defers,S.tn,?_⟩
 ·intro t g av ht;obtain ⟨q1,q2,q3⟩:=S.env t g av ht;exact ⟨q1,fun hg=>(q2 hg).step T,fun hg=>⟨(q3 hg).1,(q3 hg).2.mono T.has⟩⟩
 ·intro h blk hm;rcases C.kinds hm with ⟨rfl,rfl⟩ | ⟨h1,h2,rfl⟩ | ⟨h1,h2,h3⟩
  ·simp only [if_true]; exact C.new
  ·show (if h=d then f else if h ∈ hs then [] else fp h)=[]
   simp [h1,h2]
  ·simp only [if_neg h1,if_neg h2];have hb0:=S.mem h _ h3;have hh:=C.heap h _ h3 h2;cases blk with
   | dead=>exact hb0
   | own e1 k1 d1 R1 =>
    obtain ⟨p1,p2,p3⟩:=hb0;refine ⟨p1,p2,?_⟩;rw [upd_ne _ _ h1];rcases p3 with p3 | ⟨b,cap,cs,f0,q1,q2,q3,q4,q5,q6,q7,q8⟩
    ·exact .inl p3
    ·refine .inr ⟨b,cap,cs,f0,q1,?_,q3,q4,q5,q6.keep fun x hx=>?_,q7,fun hdp=>⟨(q8 hdp).1,fun x hx=>?_⟩⟩
     ·rw [hh b (by simp [Ob,q1])]; exact q2
     ·cases d1 with
      | true =>
       have:=hh x.1 (by simp only [Ob,q1,List.mem_append,List.mem_map]; exact .inr ⟨x,by rw [q7 rfl]; exact hx,rfl⟩)
       exact ⟨.of_same this,fun _=>this⟩
      | false=>exact ⟨C.agree x (q6.lt x hx) ((q8 rfl).2 x hx).1,by simp⟩
     ·have:=(q8 hdp).2 x hx;exact ⟨T.lim x (q6.lt x hx) this.1,this.2⟩
   | box ty vs =>
    obtain ⟨p0,b,cv,q1,q2,q3,q4⟩:=hb0;refine ⟨p0,b,cv,by rw [upd_ne _ _ h1]; exact q1,?_,q3.step T,q4⟩
    rw [hh b (by simp [Ob,q1])]; exact q2
 ·intro h blk hm;rcases C.ob (fp:=fp) hm with ⟨rfl,rfl⟩ | ⟨_,q⟩ | ⟨_,_,q1,q⟩
  ·simp only [if_true]; exact C.nodup
  ·rw [q]; exact List.nodup_nil
  ·rw [q]; exact S.nodup h _ q1
 ·intro h h' blk blk' hm hm' hne x hx hx';rcases C.ob (fp:=fp) hm with ⟨rfl,rfl⟩ | ⟨_,q⟩ | ⟨q0,qs,q1,q⟩ <;> rcases C.ob (fp:=fp) hm' with ⟨rfl,rfl⟩ | ⟨_,q'⟩ | ⟨q0',qs',q1',q'⟩
  ·exact hne rfl
  ·rw [q'] at hx'; cases hx'
  ·rw [q'] at hx';simp only [if_true] at hx;rcases C.from_ x hx with r | ⟨g,r1,b0,r2,r3⟩
   ·have:=lt _ _ q1' x hx'; omega
   ·exact S.disj g h' _ _ r2 q1' (by intro e; subst e; exact qs' r1) x r3 hx'
  ·rw [q] at hx; cases hx
  ·rw [q] at hx; cases hx
  ·rw [q] at hx; cases hx
  ·rw [q] at hx;simp only [if_true] at hx';rcases C.from_ x hx' with r | ⟨g,r1,b0,r2,r3⟩
   ·have:=lt _ _ q1 x hx; omega
   ·exact S.disj g h _ _ r2 q1 (by intro e; subst e; exact qs r1) x r3 hx
  ·rw [q'] at hx'; cases hx'
  ·rw [q] at hx; rw [q'] at hx'
   exact S.disj h h' _ _ q1 q1' hne x hx hx'
 ·intro h blk hm x hx hG;rcases C.ob (fp:=fp) hm with ⟨rfl,rfl⟩ | ⟨_,q⟩ | ⟨q0,qs,q1,q⟩
  ·simp only [if_true] at hx;rcases C.from_ x hx with r | ⟨g,r1,b0,r2,r3⟩
   ·have:=(S.old x hG).1;have:=S.size;omega
   ·exact S.free g _ r2 x r3 hG
  ·rw [q] at hx; cases hx
  ·rw [q] at hx; exact S.free h _ q1 x hx hG
 ·intro p hp;obtain ⟨h1,h2⟩:=S.pin p hp;exact ⟨(upd_ne _ _ (C.ne h2)).trans h1,T.has _ h2⟩
include C S in
theorem Regrow.rel (hdp:dp=true):RelL w' (rm s.m hs d (.own e k dp R)) (upd β d v) c [.own d k R] [v]:=by
 subst hdp;have S':=C.sat S;have:=iu (fps:=fun h=>if h=d then f else if h ∈ hs then [] else fp h) (f:=f) (upd_same _ _ _) C.new C.nodup (fun h' blk' hm' hne x hx=>by
  have:=S'.disj d h' _ blk' (upd_same _ _ _) hm' (Ne.symm hne) x (by simpa using hx)
  exact this) (fun x hx=>S'.free d _ (upd_same _ _ _) x (by simpa using hx))
 rwa [upd_same] at this
end
def fP (m:Nat->Option Blk) (ti:TI) (ρ:Operand->AV):List (Nat × Operand)->Nat->Option (List (List D) × List Nat)
 | [],_=>some ([],[])
 | (j,x) :: r,i=>if j=i then match mvL m ti.cells (ρ x).cells,fP m ti ρ r (i+1) with
   | some (row,h),some (rows,hs)=>some (row :: rows,h++hs)
   | _,_=>none
  else none
section
variable {w:World} {c:Cx} {s:St} {a:Act} {β:Nat->Value} {fp:Nat->List (Nat × Nat)} (S:SatI c s a w β fp)
include S
theorem Gh {x v ks row hs} (h:RelL w s.m β c [x] [v]) (hd:mvL s.m ks x.cells=some (row,hs)) (hk:0 < ks.length) :
  row.length=ks.length/\v.cells.size=ks.length/\(∀ u ∈ v.cells.toList,u.oneCell'=true)/\(∀ h ∈ hs,∃ e k R,s.m h=some (.own e k true R)) /\
   ∃ f,RdL true w row v.cells.toList f/\f.map (·.1)=hs.flatMap fun h=>Ob β h (fp h) (eC s.m h):=by
 have len:∀ {ts vs ds hs},mvL s.m ts vs=some (ds,hs)->ds.length=ts.length/\vs.length=ts.length:=by
  intro ts
  induction ts with
  | nil =>
   intro vs ds hs h;cases vs with
   | nil=>cases h; exact ⟨rfl,rfl⟩
   | cons=>cases h
  | cons t ts ih =>
   intro vs ds hs h;cases vs with
   | nil=>cases h
   | cons v vs =>
    unfold mvL at h;split at h
    ·rename_i h2;cases h;simp [ih h2]
    ·cases h
 obtain ⟨l1,l2⟩:=len hd;by_cases hx:∃ vs,x = .agg vs
 ·obtain ⟨vs,rfl⟩:=hx;cases h with
  | agg h1 h2 _ =>
   obtain ⟨q1,q2,f,q3,q4⟩:=wZ S h1 hd;have hl:=h1.length;refine ⟨l1,?_,?_,q2,f,?_,q4⟩
   ·simp only [Value.cells,List.size_toArray];rw [<- hl]; exact l2
   ·simpa [Value.cells] using q1
   ·simpa [Value.cells] using q3
 ·have hx':x.cells=[x]:=by cases x <;> first | rfl | exact absurd ⟨_,rfl⟩ hx
  rw [hx'] at hd l2;obtain ⟨q1,q2,f,q3,q4⟩:=wZ S h hd;have q5:v.oneCell'=true:=q1 v (by simp)
  have q6:v.cells = #[v]:=by cases v <;> first | rfl | (cases q5)
  refine ⟨l1,by rw [q6,<- l2]; rfl,?_,q2,f,by rw [q6]; exact q3,q4⟩
  rw [q6]; simpa using q5
theorem Mr {ti:TI} (hk:0 < ti.cells.length) {ρ:Operand->AV} {ρv:Operand->Value}:∀ {ps:List (Nat × Operand)} {i rows hs},(∀ p ∈ ps,RelL w s.m β c [ρ p.2] [ρv p.2])->fP s.m ti ρ ps i=some (rows,hs) ->
  rows.length=ps.length/\(∀ r ∈ rows,r.length=ti.cells.length)/\(∀ v ∈ ps.map (fun p=>ρv p.2),v.cells.size=ti.cells.length) /\
  (ps.map fun p=>(p.1,ρv p.2))=(((ps.map fun p=>ρv p.2).zipIdx i).map fun p=>(p.2,p.1)) /\
  (∀ h ∈ hs,∃ e k R,s.m h=some (.own e k true R)) /\
  ∃ f,RdL true w rows.flatten ((ps.map fun p=>ρv p.2).flatMap fun v=>v.cells.toList) f/\f.map (·.1)=hs.flatMap fun h=>Ob β h (fp h) (eC s.m h):=by
 intro ps
 induction ps with
 | nil =>
  intro i rows hs _ h;cases h;exact ⟨rfl,by simp,by simp,rfl,by simp,[],by simpa using RdL.nil,by simp⟩
 | cons p ps ih =>
  intro i rows hs hr h;obtain ⟨j,x⟩:=p;simp only [fP] at h;split at h
  ·rename_i hj;subst hj;split at h
   ·rename_i row h1 rows' h2 hrow hrows;cases h;obtain ⟨a1,a2,a3,a4,f,a5,a6⟩:=Gh S (hr (j,x) (by simp)) hrow hk
    obtain ⟨b1,b2,b3,b4,b5,g,b6,b7⟩:=ih (i:=j+1) (fun p hp=>hr p (by simp [hp])) hrows
    refine ⟨by simp [b1],?_,?_,?_,?_,f++g,?_,?_⟩
    ·intro r hr;rcases List.mem_cons.1 hr with rfl | hr
     ·exact a1
     ·exact b2 r hr
    ·intro v hv;simp only [List.map_cons,List.mem_cons] at hv;rcases hv with rfl | hv
     ·exact a2
     ·exact b3 v hv
    ·simp [b4]
    ·intro h hh;rcases List.mem_append.1 hh with hh | hh
     ·exact a4 h hh
     ·exact b5 h hh
    ·simpa using a5.append b6
    ·simp [a6,b7]
   ·cases h
  ·cases h
end
section
variable {P:Program} {T:Nat->Option TI} (hT:∀ t ti,T t=some ti->TOk P t ti)
include hT
theorem zF {t} {ts te:TI} (hts:T t=some ts) (hte:T ts.elem=some te) (he:bi T t ≠ 0):P.underlying t=some (.slice ts.elem):=by
 obtain ⟨e,te',hu,hte',hkl⟩:=gv hT (t:=t) (k:=bi T t) ⟨rfl,Nat.pos_of_ne_zero he⟩;unfold bi at he;rw [hts] at he;simp only at he;split at he
 ·rename_i e0 k0 te0 hg hc _;obtain ⟨q1,q2⟩:=(hT _ _ hts).slice hg hc;subst q1;exact q2
 ·exact absurd rfl he
theorem F1 {t n} {ts te:TI} {parts:List (Nat × Value)} {w:World} (hts:T t=some ts) (hte:T ts.elem=some te) (he:bi T t ≠ 0)
  (b3:∀ v ∈ parts.map (·.2),v.cells.size=te.cells.length) (b4:parts=(((parts.map (·.2)).zipIdx 0).map fun p=>(p.2,p.1))) (hlen:n=parts.length/\n * te.cells.length<=16777216) :
  (Instr.buildSlice t n parts.toArray).run P w = .ok (.slice (some ⟨w.heap.size,0,none⟩) n n) (w.alloc (.cells ((parts.map (·.2)).flatMap fun v=>v.cells.toList).toArray ts.elem)):=by
 have hu:=zF hT hts hte he;obtain ⟨hn1,hn2⟩:=hlen;have hk:=(hT _ _ hte).pos;obtain ⟨z,z1,z2⟩:=(hT _ _ hte).zero w;have hvl:(parts.map (·.2)).length=n:=by simp [hn1]
 have hsz:z.cells.size=te.cells.length:=by rw [<- Array.length_toList,z2]; simp
 have hfill:∀ Z:List Value,n * te.cells.length<=Z.length->Z.length=n * te.cells.length ->
   Instr.fill (fun i=>some (i * te.cells.length,te.cells.length)) Z.toArray parts=some ((parts.map (·.2)).flatMap fun v=>v.cells.toList).toArray:=by
  intro Z hZ hZ2;have:=vo (k:=te.cells.length) (parts.map (·.2)) 0 [] Z b3 (by simp) (by rw [hvl]; exact hZ)
  simp only [List.nil_append,hvl] at this;rw [b4,List.map_map];have e0:((fun x:Nat × Value=>x.2) ∘ fun p:Value × Nat=>(p.2,p.1))=fun p=>p.1:=rfl;rw [e0,List.zipIdx_map_fst,this];have:Z.drop (n * te.cells.length)=[]:=List.drop_eq_nil_of_le (by omega)
  simp [this]
 by_cases h0:n=0
 ·subst h0;have hp:parts=[]:=List.eq_nil_of_length_eq_zero hn1.symm;subst hp;simp [Instr.buildSlice,run_underlying hu,(hT _ _ hte).size,newRow,Instr.fill];rw [show Array.range 0 = #[] from by simp [Array.range],Array.map_empty]
 ·have hlt:¬ 2 ^ 24 < n * te.cells.length:=by omega
  have h0':¬ n * te.cells.length=0:=by
   intro h;rcases Nat.mul_eq_zero.1 h with h | h <;> omega
  have hf:=hfill ((Array.range (n * te.cells.length)).map fun x=>z.cells[x % z.cells.size]!).toList (by simp) (by simp)
  simp only [Array.toArray_toList] at hf;simp only [Instr.buildSlice,Sem.run_bind,run_underlying hu,Result.andThen_ok,(hT _ _ hte).size,if_neg hlt,if_neg h0',z1,Sem.run_pure,hf,newRow];rfl
end
def gV (T:Nat->Option TI) (t n:Nat) (parts:List (Nat × Operand)) (d:Nat) (s:St) (K:AV->(Nat->Option Blk)->Prop):Prop :=
 match T t with
 | some ts=>match T ts.elem with
  | some te=>match fP s.m te s.val parts 0 with
   | some (rows,hs)=>bi T t ≠ 0/\(parts.all fun p=>s.cond p.2)=true/\(n=parts.length/\n * te.cells.length<=16777216)/\s.m d=none/\hs.Nodup /\
     K (.own d te.cells.length rows) (upd (bz hs s.m) d (some (.own ts.elem te.cells.length true rows)))
   | none=>False
  | none=>False
 | none=>False
section
variable {P:Program} {T:Nat->Option TI} (hT:∀ t ti,T t=some ti->TOk P t ti) {c:Cx} {s:St} {a:Act} {w:World} {β:Nat->Value} {fp:Nat->List (Nat × Nat)} (S:SatI c s a w β fp)
include hT S
theorem FW {t n d K} {parts:Array (Nat × Operand)} (h:gV T t n parts.toList d s K) :
  ∃ v w' av m β' fp',(Instr.buildSlice t n (parts.map fun (i,x)=>(i,a.eval x))).run P w = .ok v w'/\K av m/\SatI c ⟨s.e,m⟩ a w' β' fp'/\RelL w' m β' c [av] [v]:=by
 unfold gV at h;split at h
 ·rename_i ts hts;split at h
  ·rename_i te hte;split at h
   ·rename_i rows hs hrows;obtain ⟨he,hcond,hlen,hd,hn,hK⟩:=h;have hk:=(hT _ _ hte).pos;obtain ⟨b1,b2,b3,b4,b5,f,b6,b7⟩:=Mr S hk (ρv:=a.eval) (fun p hp=>S.val (List.all_eq_true.1 hcond p hp)) hrows;have hrun:=F1 hT (parts:=parts.toList.map fun p=>(p.1,a.eval p.2)) (w:=w) hts hte he (by
     intro v hv;refine b3 v ?_
     simpa [List.map_map] using hv) (by
     have e0:((parts.toList.map fun p=>(p.1,a.eval p.2)).map (·.2))=parts.toList.map fun p=>a.eval p.2:=by simp [List.map_map]
     rw [e0]; exact b4) (by simpa using hlen)
    have hp:(parts.toList.map fun p=>(p.1,a.eval p.2)).toArray=parts.map fun (i,x)=>(i,a.eval x):=by apply Array.ext'; simp
    rw [hp] at hrun;have hmap:((parts.toList.map fun p=>(p.1,a.eval p.2)).map (·.2))=parts.toList.map fun p=>a.eval p.2:=by simp [List.map_map]
    rw [hmap] at hrun;have hsome:∀ g ∈ hs,(s.m g).isSome=true:=fun g hg=>by obtain ⟨_,_,_,q⟩:=b5 g hg; rw [q]; rfl
    obtain ⟨m1,m2,m3,m4⟩:=Bv S hn hsome;generalize hcv:((parts.toList.map fun p=>a.eval p.2).flatMap fun v=>v.cells.toList)=cvs at *;have hcl:cvs.length=rows.length * te.cells.length:=by rw [<- b6.length,eX b2]
    have hrl:rows.length=n:=by rw [b1,hlen.1]
    have hold:∀ b,b < w.heap.size->(w.alloc (.cells cvs.toArray ts.elem)).heap[b]? = w.heap[b]?:=fun b hb=>heap_alloc_old w _ hb;have hfl:∀ z ∈ f,z.1 < w.heap.size:=fun z hz=>m4 z.1 (by rw [<- b7]; exact List.mem_map.2 ⟨z,hz,rfl⟩)
    have C:Regrow c s w β fp (w.alloc (.cells cvs.toArray ts.elem)) d hs ts.elem te.cells.length true rows (.slice (some ⟨w.heap.size,0,none⟩) n n) f:=by
     refine ⟨hd,hsome,fun g hg ty vs=>?_,fun x hx _=>.of_same (hold _ hx),fun g blk hg _ b hb=>hold _ ((S.mem g _ hg).lt b hb),fun b hG=>hold _ (Nat.lt_of_lt_of_le (S.old b hG).1 S.size),by simp,rfl,rfl,rfl,?_,?_,?_,?_⟩
     ·obtain ⟨_,_,_,q⟩:=b5 g hg;rw [q]; simp
     ·intro b n' cc hv;cases hv;exact .inl (Nat.le_refl _)
     ·refine ⟨hk,b2,.inr ⟨w.heap.size,n,cvs.toArray,f,by rw [upd_same,hrl],heap_alloc_new w _,by omega,?_,by simp [hcl,hrl],?_,fun _=>rfl,by simp⟩⟩
      ·have:n<=n * te.cells.length:=Nat.le_mul_of_pos_right _ hk;have:=hlen.2;unfold maxLen;omega
      ·have:(cvs.toArray.toList.take (rows.length * te.cells.length))=cvs:=by rw [<- hcl]; simp
       rw [this];exact b6.keep fun z hz=>⟨.of_same (hold _ (hfl z hz)),fun _=>hold _ (hfl z hz)⟩
     ·simp only [Ob,upd_same,List.cons_append,List.nil_append,List.nodup_cons];refine ⟨fun hc=>?_,by rw [b7]; exact m1⟩
      rw [b7] at hc;exact Nat.lt_irrefl _ (m4 _ hc)
     ·intro x hx;simp only [Ob,upd_same,List.cons_append,List.nil_append,List.mem_cons] at hx;rcases hx with rfl | hx
      ·exact .inl (Nat.le_refl _)
      ·rw [b7] at hx;obtain ⟨g,hg,hxg⟩:=List.mem_flatMap.1 hx;obtain ⟨e1,k1,R1,q⟩:=b5 g hg;exact .inr ⟨g,hg,_,q,by simpa [eC,q] using hxg⟩
    exact ⟨_,_,_,_,_,_,hrun,hK,C.sat S,C.rel S rfl⟩
   ·exact h.elim
  ·exact h.elim
 ·exact h.elim
end
theorem L6 {w m β c h e k R} {f:List (Nat × Nat)} {fps:Nat->List (Nat × Nat)} (hm:m h=some (.own e k false R)) (hb:BlkOk w m β c h f (.own e k false R))
  (hd:∀ h' blk',m h'=some blk'->h' ≠ h -> ∀ x ∈ Ob β h f (.own e k false R),x ∉ Ob β h' (fps h') blk')
  (hf:∀ x ∈ Ob β h f (.own e k false R),¬ c.G x):RelL w m β c [.own h k R] [β h]:=by
 obtain ⟨hk,hR,h3⟩:=hb;refine .own (by rw [hm]; rfl) ⟨e,?_⟩ (fun e' k' d' R' hm'=>?_) .lnil
 ·rcases h3 with ⟨q1,q2,q3⟩ | ⟨b,cap,cs,f0,q1,q2,q3,q4,q5,q6,q7,q8⟩
  ·subst q2;rw [q1];exact ⟨[],.sl0 (by unfold maxLen; omega) (by simp) .nil,by simp⟩
  ·by_cases h0:R=[]
   ·subst h0;rw [q1];exact ⟨[],by simpa using RdL.sl0 q4 (by simp) .nil,by simp⟩
   ·have hpos:0 < R.length:=List.length_pos_iff.2 h0;have hlen:(cs.toList.take (R.length * k)).length=R.length * k:=by rw [<- q6.length,eX hR]
    refine ⟨(b,0+(cs.toList.take (R.length * k)).length) :: (f0++[]),?_,?_⟩
    ·rw [q1];exact .sl rfl (.inr hpos) q3 q4 hR q2 (by simp) (fun j u hu=>by
      rw [List.getElem?_take] at hu;split at hu
      ·simpa using hu
      ·cases hu) q6 .nil
    ·intro x hx;simp only [List.append_nil,List.mem_cons] at hx;have hx1:b ∈ Ob β h f (.own e k false R):=by simp [Ob,q1]
     rcases hx with rfl | hx
     ·refine ⟨⟨?_,?_⟩,.inr ⟨rfl,hf _ hx1⟩⟩
      ·rintro ⟨g,ty,vs,hg,hgv⟩;have hne:g ≠ h:=by intro e; subst e; rw [hm] at hg; cases hg
       exact hd g _ hg hne b hx1 (by simp [Ob,hgv])
      ·intro g e2 k2 d2 R2 n2 c2 hg hgv;by_cases hne:g=h
       ·subst hne;rw [hm] at hg;cases hg;simp only [Nat.zero_add,hlen]; exact Nat.le_refl _
       ·exact absurd (by simp [Ob,hgv]) (hd g _ hg hne b hx1)
     ·exact (q8 rfl).2 x hx
 ·rw [hm] at hm';cases hm';exact ⟨rfl,rfl⟩
section
variable {c:Cx} {s:St} {a:Act} {w:World} {β:Nat->Value} {fp:Nat->List (Nat × Nat)} (S:SatI c s a w β fp)
 {w':World} {d:Nat} {hs:List Nat} {e k:Nat} {dp:Bool} {R:List (List D)} {v:Value} {f:List (Nat × Nat)} (C:Regrow c s w β fp w' d hs e k dp R v f)
include C S in
theorem Regrow.rel':RelL w' (rm s.m hs d (.own e k dp R)) (upd β d v) c [.own d k R] [v]:=by
 cases dp with
 | true=>exact C.rel S rfl
 | false =>
  have S':=C.sat S;have:=L6 (fps:=fun h=>if h=d then f else if h ∈ hs then [] else fp h) (f:=f) (upd_same _ _ _) C.new (fun h' blk' hm' hne x hx=>by
   have:=S'.disj d h' _ blk' (upd_same _ _ _) hm' (Ne.symm hne) x (by simpa using hx)
   exact this) (fun x hx=>S'.free d _ (upd_same _ _ _) x (by simpa using hx))
  rwa [upd_same] at this
end
structure Base (w:World) (e k:Nat) (R:List (List D)) (v:Value) (bo:Option Nat) (cap:Nat) (cs:Array Value):Prop where
 val:v = .slice (bo.map fun b=>⟨b,0,none⟩) R.length cap
 rows:∀ r ∈ R,r.length=k
 le:R.length<=cap
 max:cap<=maxLen
 size:cs.size=cap * k
 nil:bo=none->cap=0
 blk:∀ b,bo=some b->w.heap[b]? = some (.cells cs e (0,0))
section
variable {P:Program} {T:Nat->Option TI} (hT:∀ t ti,T t=some ti->TOk P t ti) {c:Cx} {s:St} {a:Act} {w:World} {β:Nat->Value} {fp:Nat->List (Nat × Nat)} (S:SatI c s a w β fp)
include hT S
theorem oX {t t2 ty d:Nat} {ts te:TI} {R r:List (List D)} {v1 v2:Value} {bo:Option Nat} {cap:Nat} {cs:Array Value} {news:List Value} {dp:Bool} {F f':List (Nat × Nat)} {hs:List Nat}
  (hts:T t=some ts) (hte:T ts.elem=some te) (he:bi T t ≠ 0) (hB:Base w ts.elem te.cells.length R v1 bo cap cs) (hsrc:Src P te.cells.length t2 v2 r.length news w) (hr:∀ x ∈ r,x.length=te.cells.length)
  (hsz:(R.length+r.length) * te.bytes<=140737488355328/\R.length+r.length<=140737488355328)
  (hRd:RdL dp w (R++r).flatten (cs.toList.take (R.length * te.cells.length)++news) F)
  (hdt:dp=true->f'=F /\ ∀ z ∈ F,∀ b,bo=some b->z.1 ≠ b) (hdf:dp=false->f'=[] /\ ∀ z ∈ F,Lim s.m β z/\c.may false z)
  (hd:s.m d=none) (hdead:∀ h ∈ hs,∃ e k d R,s.m h=some (.own e k d R))
  (hbo:∀ b,bo=some b -> ∃ h ∈ hs,∃ e0 d0 n0 c0,s.m h=some (.own e0 te.cells.length d0 R) /\ β h = .slice (some ⟨b,0,none⟩) n0 c0)
  (hnd:(f'.map (·.1)).Nodup) (hfrom:∀ z ∈ f',∃ h ∈ hs,∃ blk,s.m h=some blk/\z.1 ∈ Ob β h (fp h) blk)
  (hother:∀ h blk,s.m h=some blk->h ∉ hs -> ∀ b,bo=some b->b ∉ Ob β h (fp h) blk) :
  ∃ v' w' β' fp',(Builtin.append_ #[t,t2] ty #[v1,v2]).run P w = .ok v' w'/\SatI c ⟨s.e,rm s.m hs d (.own ts.elem te.cells.length dp (R++r))⟩ a w' β' fp' /\
   RelL w' (rm s.m hs d (.own ts.elem te.cells.length dp (R++r))) β' c [.own d te.cells.length (R++r)] [v']:=by
 have hu:=zF hT hts hte he;obtain ⟨i,z,i1,i2,i3,i4,i5⟩:=(hT _ _ hte).info;have hk:=(hT _ _ hte).pos;generalize hkk:te.cells.length=k at *;have hsome:∀ h ∈ hs,(s.m h).isSome=true:=fun h hh=>by obtain ⟨_,_,_,_,q⟩:=hdead h hh; rw [q]; rfl
 have hnb:∀ h ∈ hs,∀ ty vs,s.m h ≠ some (.box ty vs):=fun h hh ty vs e=>by obtain ⟨_,_,_,_,q⟩:=hdead h hh; rw [q] at e; cases e
 have hrows:∀ x ∈ R++r,x.length=k:=fun x hx=>by
  rcases List.mem_append.1 hx with hx | hx
  ·exact hB.rows x hx
  ·exact hr x hx
 have hlr:(R++r).length=R.length+r.length:=by simp
 have hnl:news.length=r.length * k:=hsrc.newsLen;have hGlt:∀ b,c.G b->b < w.heap.size:=fun b hG=>Nat.lt_of_lt_of_le (S.old b hG).1 S.size;have hblt:∀ b,bo=some b->b < w.heap.size:=fun b hb=>(Array.getElem?_eq_some_iff.1 (hB.blk b hb)).1;have holdl:(cs.toList.take (R.length * k)).length=R.length * k:=by
  have h1:cs.toList.length=cap * k:=by rw [Array.length_toList]; exact hB.size
  rw [List.length_take,h1];exact Nat.min_eq_left (Nat.mul_le_mul_right k hB.le)
 have hFlt:∀ z ∈ F,z.1 < w.heap.size:=hRd.lt;have hflt:∀ z ∈ f',z.1 < w.heap.size:=fun z hz=>by
  cases hdp:dp with
  | true=>exact hFlt z ((hdt hdp).1 ▸ hz)
  | false=>rw [(hdf hdp).1] at hz; cases hz
 -- a new block
 have grown:∀ (w1:World) (cells:Array Value) (cap':Nat),w1.heap=w.heap->w1.os=w.os->w1.tape=w.tape->w1.output=w.output->R.length+r.length<=cap'->cap'<=maxLen->cells.size=cap' * k ->
   cells.toList.take ((R.length+r.length) * k)=cs.toList.take (R.length * k)++news ->
   Regrow c s w β fp (w1.alloc (.cells cells ts.elem)) d hs ts.elem k dp (R++r) (.slice (some ⟨w.heap.size,0,none⟩) (R.length+r.length) cap') f':=by
  intro w1 cells cap' g1 g2 g3 g4 g5 g6 g7 g8;have hold:∀ b,b < w.heap.size->(w1.alloc (.cells cells ts.elem)).heap[b]? = w.heap[b]?:=fun b hb=>by rw [heap_alloc_old w1 _ (by rw [g1]; exact hb),g1]
  have hnew:(w1.alloc (.cells cells ts.elem)).heap[w.heap.size]? = some (.cells cells ts.elem (0,0)):=by
   have:=heap_alloc_new w1 (.cells cells ts.elem);rw [g1] at this;exact this
  have T0:∀ x:Nat × Nat,x.1 < w.heap.size->Lim s.m β x->Lim (rm s.m hs d (.own ts.elem k dp (R++r))) (upd β d (.slice (some ⟨w.heap.size,0,none⟩) (R.length+r.length) cap')) x:=by
   intro x hx hl;refine ⟨?_,?_⟩
   ·rintro ⟨h,ty,vs,hm,hb⟩;by_cases he:h=d
    ·subst he; simp only [rm,upd_same] at hm; cases hm
    ·simp only [rm,upd_ne _ _ he] at hm hb;by_cases hh:h ∈ hs
     ·rw [eE hh] at hm; cases hm
     ·rw [dD hh] at hm; exact hl.1 ⟨h,ty,vs,hm,hb⟩
   ·intro h e1 k1 d1 R1 n1 c1 hm hb;by_cases he:h=d
    ·subst he;rw [upd_same] at hb;simp only [Value.slice.injEq,Option.some.injEq,Addr.mk.injEq] at hb;omega
    ·simp only [rm,upd_ne _ _ he] at hm hb;by_cases hh:h ∈ hs
     ·rw [eE hh] at hm; cases hm
     ·rw [dD hh] at hm; exact hl.2 h e1 k1 d1 R1 n1 c1 hm hb
  refine ⟨hd,hsome,hnb,fun x hx _=>.of_same (hold _ hx),fun g blk hg _ b hb=>hold _ ((S.mem g _ hg).lt b hb),fun b hG=>hold _ (hGlt b hG),by simp [g1],g2,g3,g4,?_,?_,?_,?_⟩
  ·intro b n' cc hv;cases hv;exact .inl (Nat.le_refl _)
  ·refine ⟨hk,hrows,.inr ⟨w.heap.size,cap',cells,F,by rw [upd_same,hlr],hnew,by rw [hlr]; exact g5,g6,g7,?_,fun h=>(hdt h).1,fun h=>⟨(hdf h).1,fun z hz=>⟨T0 z (hFlt z hz) ((hdf h).2 z hz).1,((hdf h).2 z hz).2⟩⟩⟩⟩
   rw [hlr,g8];exact hRd.keep fun z hz=>⟨.of_same (hold _ (hFlt z hz)),fun _=>hold _ (hFlt z hz)⟩
  ·simp only [Ob,upd_same,List.cons_append,List.nil_append,List.nodup_cons,List.mem_map,not_exists,not_and];exact ⟨fun z hz e=>by have:=hflt z hz; omega,hnd⟩
  ·intro x hx;simp only [Ob,upd_same,List.cons_append,List.nil_append,List.mem_cons,List.mem_map] at hx;rcases hx with rfl | ⟨z,hz,rfl⟩
   ·exact .inl (Nat.le_refl _)
   ·exact .inr (hfrom z hz)
 have hsrc':Src P i.size t2 v2 r.length news w:=by rw [i2]; exact hsrc
 by_cases hroom:R.length+r.length<=cap
 ·cases hbo':bo with
  | none =>
   have hc0:=hB.nil hbo';have hR0:R=[]:=List.eq_nil_of_length_eq_zero (by omega)
   have hr0:r=[]:=List.eq_nil_of_length_eq_zero (by omega)
   subst hR0;subst hr0;have hv:v1 = .slice none 0 0:=by rw [hB.val,hbo',hc0]; rfl
   subst hv;have hn0:news=[]:=List.eq_nil_of_length_eq_zero (by simpa using hnl)
   subst hn0;have hrun:(Builtin.append_ #[t,t2] ty #[.slice none 0 0,v2]).run P w = .ok (.slice none 0 0) w:=by
    have hc:=hsrc'.cells;have hl:=hsrc'.len w;simp only [List.length_nil] at hc hl;rcases hsrc'.kind with ⟨e',hk'⟩ | hk' <;> simp [Builtin.append_,run_underlying hu,run_underlying hk',sizeOf,typeInfo,i1,hl,hc]
   have hF0:F=[]:=by
    have hq:=hRd;have e0:cs.toList.take (([]:List (List D)).length * k)++[]=[]:=by simp
    rw [e0] at hq;cases hq;rfl
   subst hF0;have hf0:f'=[]:=by
    cases hdp:dp with
    | true=>exact (hdt hdp).1
    | false=>exact (hdf hdp).1
   subst hf0;have C:Regrow c s w β fp w d hs ts.elem k dp ([]++[]) (.slice none 0 0) []:=by
    refine ⟨hd,hsome,hnb,fun x _ _=>Agree.refl w _ _,fun _ _ _ _ _ _=>rfl,fun _ _=>rfl,Nat.le_refl _,rfl,rfl,rfl,?_,?_,?_,?_⟩
    ·intro b n cc hv; cases hv
    ·exact ⟨hk,by simp,.inl ⟨upd_same _ _ _,rfl,rfl⟩⟩
    ·simp [Ob]
    ·intro x hx; simp [Ob] at hx
   exact ⟨_,_,_,_,hrun,C.sat S,C.rel' S⟩
  | some b =>
   have hblk:=hB.blk b hbo';have hv:v1 = .slice (some ⟨b,0,none⟩) R.length cap:=by rw [hB.val,hbo']; rfl
   subst hv;have hle:(R.length+r.length) * k<=cap * k:=Nat.mul_le_mul_right k hroom;rw [Nat.add_mul] at hle;have hcl:cs.toList.length=cap * k:=by rw [Array.length_toList]; exact hB.size
   have hcs:cs.toList.toArray=cs:=by simp
   have hblk':w.heap[b]? = some (.cells cs.toList.toArray ts.elem (0,0)):=by rw [hcs]; exact hblk
   obtain ⟨r1,r2,r3,r4,r5,r6⟩:=fT b news (R.length * k) w cs.toList ts.elem (0,0) hblk' (by omega)
   have hrun:=run_append_room_src (P:=P) w t t2 ty ts.elem i hu i1 b 0 R.length cap v2 r.length news hsrc' hroom (by
    intro j hj;rw [i2,Nat.zero_add,World.cell_of hblk];have:=hB.size;simp; omega) (by
    intro j hj;simp [World.frozen?,hblk])
   rw [i2,Nat.zero_add] at hrun;obtain ⟨h0,hh0,e0,d0,n0,c0,hm0,hb0⟩:=hbo b hbo';have hother':∀ h blk,s.m h=some blk->h ∉ hs -> ∀ x ∈ Ob β h (fp h) blk,x ≠ b:=fun h blk hm hh x hx e=>hother h blk hm hh b hbo' (e ▸ hx);have hbG:¬ c.G b:=S.free h0 _ hm0 b (by simp [Ob,hb0])
   have hag:∀ x:Nat × Nat,x.1 < w.heap.size->Lim s.m β x->Agree w (w.setCells b (R.length * k) news) x.1 x.2:=by
    intro x hx hl;by_cases hxb:x.1=b
    ·intro cs1 ty1 fr1 hc1;rw [hxb,hblk'] at hc1;cases hc1;refine ⟨_,_,_,by rw [hxb]; exact r1,fun j hj=>?_⟩
     have hlim:=hl.2 h0 e0 k d0 R n0 c0 hm0 (by rw [hxb]; exact hb0)
     have hj':j < (cs.toList.take (R.length * k)).length:=by rw [holdl]; omega
     simp only [List.getElem?_toArray];rw [List.getElem?_append_left hj',List.getElem?_take_of_lt (by omega)]
    ·exact .of_same (r2 _ hxb)
   have T0:∀ x:Nat × Nat,x.1 < w.heap.size->Lim s.m β x->Lim (rm s.m hs d (.own ts.elem k dp (R++r))) (upd β d (.slice (some ⟨b,0,none⟩) (R.length+r.length) cap)) x:=by
    intro x hx hl;refine ⟨?_,?_⟩
    ·rintro ⟨h,ty,vs,hm,hb⟩;by_cases he:h=d
     ·subst he; simp only [rm,upd_same] at hm; cases hm
     ·simp only [rm,upd_ne _ _ he] at hm hb;by_cases hh:h ∈ hs
      ·rw [eE hh] at hm; cases hm
      ·rw [dD hh] at hm; exact hl.1 ⟨h,ty,vs,hm,hb⟩
    ·intro h e1 k1 d1 R1 n1 c1 hm hb;by_cases he:h=d
     ·subst he;rw [upd_same] at hb;simp only [rm,upd_same] at hm;cases hm;have hxb:b=x.1:=by cases hb; rfl
      have:=hl.2 h0 e0 k d0 R n0 c0 hm0 (by rw [<- hxb]; exact hb0)
      rw [hlr,Nat.add_mul]; omega
     ·simp only [rm,upd_ne _ _ he] at hm hb;by_cases hh:h ∈ hs
      ·rw [eE hh] at hm; cases hm
      ·rw [dD hh] at hm; exact hl.2 h e1 k1 d1 R1 n1 c1 hm hb
   have C:Regrow c s w β fp (w.setCells b (R.length * k) news) d hs ts.elem k dp (R++r) (.slice (some ⟨b,0,none⟩) (R.length+r.length) cap) f':=by
    refine ⟨hd,hsome,hnb,hag,fun h blk hm hh x hx=>r2 _ (hother' h blk hm hh x hx),fun x hG=>r2 _ (fun e=>hbG (e ▸ hG)),by omega,r4,r5,r6,?_,?_,?_,?_⟩
    ·intro b' n' cc hv;cases hv;refine .inr ⟨h0,hh0,e0,k,d0,R,n0,c0,hm0,hb0,?_⟩;rw [hlr,Nat.add_mul]; omega
    ·refine ⟨hk,hrows,.inr ⟨b,cap,_,F,by rw [upd_same,hlr],r1,by rw [hlr]; exact hroom,hB.max,?_,?_,fun h=>(hdt h).1,fun h=>⟨(hdf h).1,fun z hz=>⟨T0 z (hFlt z hz) ((hdf h).2 z hz).1,((hdf h).2 z hz).2⟩⟩⟩⟩
     ·simp only [List.size_toArray,List.length_append,List.length_drop,holdl];omega
     ·have e1:((cs.toList.take (R.length * k)++(news++cs.toList.drop (R.length * k+news.length))).toArray.toList.take ((R++r).length * k))=cs.toList.take (R.length * k)++news:=by
       rw [hlr,Nat.add_mul,<- List.append_assoc];exact List.take_left' (by rw [List.length_append,holdl,hnl])
      rw [e1];refine hRd.keep fun z hz=>?_;cases hdp:dp with
      | true =>
       have:=r2 z.1 ((hdt hdp).2 z hz b hbo');exact ⟨.of_same this,fun _=>this⟩
      | false=>exact ⟨hag z (hFlt z hz) ((hdf hdp).2 z hz).1,by simp⟩
    ·simp only [Ob,upd_same,List.cons_append,List.nil_append,List.nodup_cons,List.mem_map,not_exists,not_and];refine ⟨fun z hz e=>?_,hnd⟩;cases hdp:dp with
     | true=>exact (hdt hdp).2 z ((hdt hdp).1 ▸ hz) b hbo' e
     | false=>rw [(hdf hdp).1] at hz; cases hz
    ·intro x hx;simp only [Ob,upd_same,List.cons_append,List.nil_append,List.mem_cons,List.mem_map] at hx;rcases hx with rfl | ⟨z,hz,rfl⟩
     ·exact .inr ⟨h0,hh0,_,hm0,by simp [Ob,hb0]⟩
     ·exact .inr (hfrom z hz)
   exact ⟨_,_,_,_,hrun,C.sat S,C.rel' S⟩
 ·have hv:v1 = .slice (bo.map fun b=>⟨b,0,none⟩) R.length cap:=hB.val;subst hv;have hold:(Builtin.firstCells i.size R.length (.slice (bo.map fun b=>⟨b,0,none⟩) R.length cap)).run P w.drew = .ok (cs.toList.take (R.length * k)).toArray w.drew:=by
   cases hbo':bo with
   | none =>
    have hc0:=hB.nil hbo';have hR0:R=[]:=List.eq_nil_of_length_eq_zero (by have:=hB.le; omega)
    subst hR0;simp [run_firstCells_none]
   | some b =>
    have hblk:=hB.blk b hbo';refine run_firstCells_some (P:=P) w.drew i.size R.length ⟨b,0,none⟩ R.length cap _ (by rw [holdl,i2]) (fun j u hu=>?_)
    rw [oS];have:w.drew.cell? ⟨b,0+j,none⟩=w.cell? ⟨b,0+j,none⟩:=by simp
    rw [this,World.cell_of hblk,Nat.zero_add];rw [List.getElem?_take] at hu;split at hu
    ·simpa using hu
    ·cases hu
  have hneed:cap < R.length+r.length:=by omega
  have hbytes:(R.length+r.length) * i.bytes<=140737488355328:=by rw [i3]; exact hsz.1
  have hrun:=run_append_grow_src (P:=P) w t t2 ty ts.elem i z hu i1 i4 (bo.map fun b=>⟨b,0,none⟩) R.length cap (cs.toList.take (R.length * k)) hold v2 r.length news hsrc' hneed (by omega) (growslice_fits hneed hbytes)
  have hcapge:=grownCap_ge w (R.length+r.length) cap ts.elem;have hcapm:=grownCap_le_maxLen w (R.length+r.length) cap ts.elem (by unfold maxLen; omega)
  generalize hcap':grownCap w (R.length+r.length) cap ts.elem=cap' at *;have hzs:z.cells.size=k:=by rw [<- Array.length_toList,i5]; simp [hkk]
  have C:=grown w.drew ((cs.toList.take (R.length * k)++news).toArray++Builtin.zeroCells z.cells (cap' - (R.length+r.length))) cap' rfl rfl rfl rfl hcapge hcapm (by
   rw [Array.size_append,size_zeroCells,hzs];simp only [List.size_toArray,List.length_append,holdl,hnl];have:cap' * k=(R.length+r.length) * k+(cap' - (R.length+r.length)) * k:=by rw [<- Nat.add_mul]; congr 1; omega
   rw [this,Nat.add_mul]) (by
   simp only [Array.toList_append];rw [List.take_append_of_le_length (by simp only [List.length_append,holdl,hnl]; rw [Nat.add_mul]; exact Nat.le_refl _)]
   exact List.take_of_length_le (by simp only [List.length_append,holdl,hnl]; rw [Nat.add_mul]; exact Nat.le_refl _))
  exact ⟨_,_,_,_,hrun,C.sat S,C.rel' S⟩
end
def jO:D->Prop
 | .sl _ _ _=>False
 | _=>True
def qk (r:List (List D)):Prop:=∀ x ∈ r,∀ d ∈ x,jO d
def TI.flat (ti:TI):Bool:=ti.cells.all fun c=>match c with | .sl _ _=>false | _=>true
def AV.src (k:Nat):AV->Option (List (List D))
 | .nil=>some []
 | .sl _ k' r=>if k'=k then some r else none
 | .own _ k' r=>if k'=k then some r else none
 | .sub _ _ _ k' r=>if k'=k then some r else none
 | _=>none
def AV.base (m:Nat->Option Blk) (e k:Nat):AV->Option (List Nat × List (List D) × Bool)
 | .nil=>some ([],[],true)
 | .own h _ _=>match m h with
  | some (.own e' k' dp R)=>if e'=e/\k'=k then some ([h],R,dp) else none
  | _=>none
 | _=>none
def AV.moved (m:Nat->Option Blk) (e k:Nat) (hb:List Nat):AV->Option (Nat × List (List D))
 | .own h _ _=>match m h with
  | some (.own e' k' true R)=>if e'=e/\k'=k/\h ∉ hb then some (h,R) else none
  | _=>none
 | _=>none
def jF (te:TI) (R r:List (List D)):Prop:=(R.length+r.length) * te.bytes<=140737488355328/\R.length+r.length<=140737488355328
def fy (T:Nat->Option TI) (t t2 d:Nat) (s:St) (x y:AV) (K:AV->(Nat->Option Blk)->Prop):Prop :=
 match T t with
 | some ts=>match T ts.elem with
  | some te=>bi T t ≠ 0/\bi T t2 ≠ 0/\s.m d=none /\
   match x.base s.m ts.elem te.cells.length with
   | some (hb,R,dp) =>
    if te.flat && dp then match y.src te.cells.length with
     | some r=>qk r/\jF te R r/\K (.own d te.cells.length (R++r)) (rm s.m hb d (.own ts.elem te.cells.length true (R++r)))
     | none=>False
    else match (if dp then y.moved s.m ts.elem te.cells.length hb else none) with
     | some (h2,r)=>jF te R r/\K (.own d te.cells.length (R++r)) (rm s.m (hb++[h2]) d (.own ts.elem te.cells.length true (R++r)))
     | none=>match y.src te.cells.length with
      | some r=>jF te R r/\K (.own d te.cells.length (R++r)) (rm s.m hb d (.own ts.elem te.cells.length false (R++r)))
      | none=>False
   | none=>False
  | none=>False
 | none=>False
theorem RdL.flat {q:Bool} {w:World} {ds vs f} (h:RdL q w ds vs f):(∀ d ∈ ds,jO d)->RdL true w ds vs []:=by
 induction h with
 | nil=>intro _; exact .nil
 | int _ ih=>intro h; exact .int (ih fun d hd=>h d (by simp [hd]))
 | bool _ ih=>intro h; exact .bool (ih fun d hd=>h d (by simp [hd]))
 | str hs _ ih=>intro h; exact .str hs (ih fun d hd=>h d (by simp [hd]))
 | raw hs _ ih=>intro h; exact .raw hs (ih fun d hd=>h d (by simp [hd]))
 | junk hs _ ih=>intro h; exact .junk hs (ih fun d hd=>h d (by simp [hd]))
 | sl0 _ _ _ _=>intro h; exact (h _ List.mem_cons_self).elim
 | sl _ _ _ _ _ _ _ _ _ _ _ _=>intro h; exact (h _ List.mem_cons_self).elim
theorem Hj {r:List (List D)} (h:qk r):∀ d ∈ r.flatten,jO d:=by
 intro d hd;obtain ⟨x,hx,hdx⟩:=List.mem_flatten.1 hd;exact h x hx d hdx
section
variable {P:Program} {c:Cx} {s:St} {a:Act} {w:World} {β:Nat->Value} {fp:Nat->List (Nat × Nat)} (S:SatI c s a w β fp)
theorem xT {k t2 e':Nat} {ext:Bool} {r v} (hu:P.underlying t2=some (.slice e')) (h:∃ t,Vw w s.m β c ext [.sl t k r] [v]) :
  ∃ news f,Src P k t2 v r.length news w/\(∀ x ∈ r,x.length=k)/\RdL false w r.flatten news f /\ ∀ z ∈ f,Lim s.m β z/\c.may ext z:=by
 obtain ⟨t,f,hr,hl⟩:=h;cases hr with
 | @sl0 oa cc _ _ _ _ _ h1 h2 h3 =>
  refine ⟨[],[],?_,by simp,by simpa using RdL.nil,by simp⟩
  cases oa with
  | none=>exact Src.ofNil w hu cc
  | some a=>exact Src.ofSlice w hu a 0 cc [] (by simp) (by simp) (by simp)
 | @sl b off n cc _ _ _ cs ty fr cvs f1 _ _ f2 h1 h2 h3 h4 h5 h6 h7 h8 h9 h10 =>
  cases h10;refine ⟨cvs,f1,?_,h5,h9,fun z hz=>hl z (by simp [hz])⟩
  have hlen:cvs.length=r.length * k:=by rw [<- h9.length,eX h5]
  rw [<- h1] at *;refine Src.ofSlice w hu ⟨b,off,none⟩ r.length cc cvs hlen (fun j u hu=>?_) h9.oneCell;rw [oS,World.cell_of h6];exact h8 j u hu
theorem yo {k t2 e':Nat} {y:AV} {r v} (hu:P.underlying t2=some (.slice e')) (hy:RelL w s.m β c [y] [v]) (hs:y.src k=some r) :
  ∃ news f,Src P k t2 v r.length news w/\(∀ x ∈ r,x.length=k)/\RdL false w r.flatten news f /\ ∀ z ∈ f,Lim s.m β z/\c.may false z:=by
 have weak:∀ {ext:Bool} {f:List (Nat × Nat)},(∀ z ∈ f,Lim s.m β z/\c.may ext z) -> ∀ z ∈ f,Lim s.m β z/\c.may false z:=by
  intro ext f h z hz;refine ⟨(h z hz).1,?_⟩;rcases (h z hz).2 with h | ⟨_,h⟩
  ·exact .inl h
  ·exact .inr ⟨rfl,h⟩
 unfold AV.src at hs;split at hs
 ·cases hs;cases hy with
  | nil _=>exact ⟨[],[],Src.ofNil w hu 0,by simp,by simpa using RdL.nil,by simp⟩
 ·split at hs
  ·rename_i hk;cases hs;subst hk;cases hy with
   | sl h1 _ =>
    obtain ⟨news,f,q1,q2,q3,q4⟩:=xT hu h1;exact ⟨news,f,q1,q2,q3,weak q4⟩
  ·cases hs
 ·split at hs
  ·rename_i hk;cases hs;subst hk;cases hy with
   | own _ h1 _ _=>exact xT hu h1
  ·cases hs
 ·split at hs
  ·rename_i hk;cases hs;subst hk;cases hy with
   | sub _ h1 _ _=>exact xT hu h1
  ·cases hs
 ·cases hs
include S
theorem o6 {e k:Nat} {x:AV} {v hb R dp} (hx:RelL w s.m β c [x] [v]) (hs:x.base s.m e k=some (hb,R,dp)) (hk:0 < k) :
  ∃ bo cap cs f0,Base w e k R v bo cap cs/\RdL dp w R.flatten (cs.toList.take (R.length * k)) f0/\(dp=true -> ∀ z ∈ f0,∃ h ∈ hb,fp h=f0)/\(dp=false -> ∀ z ∈ f0,Lim s.m β z/\c.may false z) /\
   (∀ h ∈ hb,∃ d',s.m h=some (.own e k d' R))/\(∀ b,bo=some b -> ∃ h,hb=[h] /\ ∃ n0 c0,β h = .slice (some ⟨b,0,none⟩) n0 c0)/\(hb=[] \/ ∃ h,hb=[h]/\s.m h=some (.own e k dp R)):=by
 unfold AV.base at hs;split at hs
 ·cases hs;cases hx with
  | nil _=>exact ⟨none,0,#[],[],⟨rfl,by simp,by simp,by unfold maxLen; omega,by simp,fun _=>rfl,by simp⟩,by simpa using RdL.nil,by simp,by simp,by simp,by simp,.inl rfl⟩
 ·rename_i h _ _;split at hs
  ·rename_i e' k' dp' R' hm;split at hs
   ·rename_i hek;obtain ⟨rfl,rfl⟩:=hek;cases hs;cases hx with
    | own _ _ h3 _ =>
     obtain ⟨rfl,_⟩:=h3 _ _ _ _ hm;obtain ⟨_,hR,h4⟩:=S.mem h _ hm;rcases h4 with ⟨q1,q2,q3⟩ | ⟨b,cap,cs,f0,q1,q2,q3,q4,q5,q6,q7,q8⟩
     ·subst q2;exact ⟨none,0,#[],[],⟨by rw [q1]; rfl,by simp,by simp,by unfold maxLen; omega,by simp,fun _=>rfl,by simp⟩,by simpa using RdL.nil,by simp,by simp,
       fun g hg=>by simp only [List.mem_singleton] at hg; subst hg; exact ⟨_,hm⟩,by simp,.inr ⟨h,rfl,hm⟩⟩
     ·refine ⟨some b,cap,cs,f0,⟨by rw [q1]; rfl,hR,q3,q4,q5,by simp,fun b' hb'=>by cases hb'; exact q2⟩,q6,fun hd z hz=>⟨h,by simp,q7 hd⟩,fun hd=>(q8 hd).2,
       fun g hg=>by simp only [List.mem_singleton] at hg; subst hg; exact ⟨_,hm⟩,fun b' hb'=>by cases hb'; exact ⟨h,rfl,_,_,q1⟩,.inr ⟨h,rfl,hm⟩⟩
   ·cases hs
  ·cases hs
 ·cases hs
end
section
variable {P:Program} {T:Nat->Option TI} (hT:∀ t ti,T t=some ti->TOk P t ti) {c:Cx} {s:St} {a:Act} {w:World} {β:Nat->Value} {fp:Nat->List (Nat × Nat)} (S:SatI c s a w β fp)
include hT S
theorem sq {t t2 ty d K} {x y:AV} {v1 v2} (hx:RelL w s.m β c [x] [v1]) (hy:RelL w s.m β c [y] [v2]) (h:fy T t t2 d s x y K) :
  ∃ v' w' av m β' fp',(Builtin.append_ #[t,t2] ty #[v1,v2]).run P w = .ok v' w'/\K av m/\SatI c ⟨s.e,m⟩ a w' β' fp'/\RelL w' m β' c [av] [v']:=by
 unfold fy at h;split at h
 ·rename_i ts hts;split at h
  ·rename_i te hte;obtain ⟨he,he2,hd,h⟩:=h;obtain ⟨e2,te2,hu2,_,_⟩:=gv hT (t:=t2) (k:=bi T t2) ⟨rfl,Nat.pos_of_ne_zero he2⟩;have hk:=(hT _ _ hte).pos;split at h
   ·rename_i hb R dp hbase;obtain ⟨bo,cap,cs,f0,B,hR0,hf0,hf1,hdead,hbo,hhb⟩:=o6 S hx hbase hk;have hother:∀ h blk,s.m h=some blk->h ∉ hb -> ∀ b,bo=some b->b ∉ Ob β h (fp h) blk:=by
     intro q blk hm hh b hb' hx;obtain ⟨g,hgb,n0,c0,hg⟩:=hbo b hb';obtain ⟨d',hgm⟩:=hdead g (by rw [hgb]; simp)
     exact S.disj g q _ _ hgm hm (by intro e; subst e; exact hh (by rw [hgb]; simp)) b (by simp [Ob,hg]) hx
    have hnb0:dp=true -> ∀ z ∈ f0,∀ b,bo=some b->z.1 ≠ b:=by
     intro hdp z hz b hb' e;obtain ⟨g,hg,hfg⟩:=hf0 hdp z hz;obtain ⟨g',rfl,n0,c0,hgv⟩:=hbo b hb';simp only [List.mem_singleton] at hg;subst hg;obtain ⟨d',hgm⟩:=hdead g (by simp)
     have hnd:=S.nodup g _ hgm;simp only [Ob,hgv,List.cons_append,List.nil_append,List.nodup_cons,List.mem_map,not_exists,not_and] at hnd;exact hnd.1 z (by rw [hfg]; exact hz) e
    have hnd0:dp=true->(f0.map (·.1)).Nodup:=by
     intro hdp;by_cases he:f0=[]
     ·subst he; simp
     ·obtain ⟨z,hz⟩:=List.exists_mem_of_ne_nil f0 he;obtain ⟨g,hg,hfg⟩:=hf0 hdp z hz;obtain ⟨d',hgm⟩:=hdead g hg;have:=S.nodup g _ hgm;simp only [Ob] at this;rw [<- hfg];exact (List.nodup_append.1 this).2.1
    have hfr0:dp=true -> ∀ z ∈ f0,∃ h ∈ hb,∃ blk,s.m h=some blk/\z.1 ∈ Ob β h (fp h) blk:=by
     intro hdp z hz;obtain ⟨g,hg,hfg⟩:=hf0 hdp z hz;obtain ⟨d',hgm⟩:=hdead g hg;exact ⟨g,hg,_,hgm,by simp only [Ob,List.mem_append,List.mem_map]; exact .inr ⟨z,by rw [hfg]; exact hz,rfl⟩⟩
    have hbo':∀ hs:List Nat,(∀ h ∈ hb,h ∈ hs) -> ∀ b,bo=some b -> ∃ h ∈ hs,∃ e0 d0 n0 c0,s.m h=some (.own e0 te.cells.length d0 R) /\ β h = .slice (some ⟨b,0,none⟩) n0 c0:=by
     intro hs hsub b hb';obtain ⟨g,rfl,n0,c0,hg⟩:=hbo b hb';obtain ⟨d',hgm⟩:=hdead g (by simp)
     exact ⟨g,hsub g (by simp),_,d',n0,c0,hgm,hg⟩
    have hdead':∀ h ∈ hb,∃ e k d R,s.m h=some (.own e k d R):=fun h hh=>by obtain ⟨d',q⟩:=hdead h hh; exact ⟨_,_,_,_,q⟩
    split at h
    ·rename_i hflat;simp only [Bool.and_eq_true] at hflat;obtain ⟨_,rfl⟩:=hflat;split at h
     ·rename_i r hr;obtain ⟨h1,h2,hK⟩:=h;obtain ⟨news,f,q1,q2,q3,q4⟩:=yo hu2 hy hr;have hfl:=q3.flat (Hj h1);obtain ⟨v',w',β',fp',g1,g2,g3⟩:=oX hT S (f':=f0) (F:=f0) (dp:=true) (hs:=hb) (ty:=ty) hts hte he B q1 q2 h2 (by
       have:=hR0.append hfl
       simpa using this) (fun _=>⟨rfl,hnb0 rfl⟩) (by simp) hd hdead' (hbo' hb fun _ h=>h) (hnd0 rfl) (hfr0 rfl) hother
      exact ⟨v',w',_,_,β',fp',g1,hK,g2,g3⟩
     ·exact h.elim
    ·split at h
     ·rename_i h2 r hmv;split at hmv
      ·rename_i hdp;subst hdp;obtain ⟨hsz,hK⟩:=h;cases y <;> simp only [AV.moved] at hmv <;> try (cases hmv; done)
       rename_i hy2 ky ry;split at hmv
       ·rename_i e' k' R' hm2;split at hmv
        ·rename_i hek;obtain ⟨rfl,hkk,hnin⟩:=hek;cases hmv;have hyr:∃ news f,Src P te.cells.length t2 v2 r.length news w/\(∀ x ∈ r,x.length=te.cells.length)/\RdL true w r.flatten news f/\f=fp h2:=by
          cases hy with
          | own _ _ h3 _ =>
           obtain ⟨rfl,_⟩:=h3 _ _ _ _ hm2;obtain ⟨_,hRr,h4⟩:=S.mem h2 _ hm2;rw [hkk] at h4 hRr;rcases h4 with ⟨p1,p2,p3⟩ | ⟨b,cap2,cs2,f2,p1,p2,p3,p4,p5,p6,p7,p8⟩
           ·subst p2;exact ⟨[],[],by rw [p1]; exact Src.ofNil w hu2 0,by simp,by simpa using RdL.nil,p3.symm⟩
           ·have hl2:(cs2.toList.take (r.length * te.cells.length)).length=r.length * te.cells.length:=by rw [<- p6.length,eX hRr]
            refine ⟨_,f2,?_,hRr,p6,(p7 rfl).symm⟩;rw [p1];refine Src.ofSlice w hu2 ⟨b,0,none⟩ r.length cap2 _ hl2 (fun j u hu=>?_) p6.oneCell;rw [oS,World.cell_of p2,Nat.zero_add];rw [List.getElem?_take] at hu;split at hu
            ·simpa using hu
            ·cases hu
         obtain ⟨news,f,q1,q2,q3,q4⟩:=hyr;have hob2:∀ z ∈ f,z.1 ∈ Ob β h2 (fp h2) (.own ts.elem k' true r):=by
          intro z hz;simp only [Ob,List.mem_append,List.mem_map];exact .inr ⟨z,by rw [<- q4]; exact hz,rfl⟩
         have hsub:∀ h ∈ hb,h ∈ hb++[h2]:=fun h hh=>by simp [hh]
         obtain ⟨v',w',β',fp',g1,g2,g3⟩:=oX hT S (f':=f0++f) (F:=f0++f) (dp:=true) (hs:=hb++[h2]) (ty:=ty) hts hte he B q1 q2 hsz (by
          have:=hR0.append q3
          simpa using this) (fun _=>⟨rfl,fun z hz b hb'=>by
           rcases List.mem_append.1 hz with hz | hz
           ·exact hnb0 rfl z hz b hb'
           ·intro e;exact hother h2 _ hm2 hnin b hb' (e ▸ hob2 z hz)⟩) (by simp) hd (fun h hh=>by
           rcases List.mem_append.1 hh with hh | hh
           ·exact hdead' h hh
           ·simp only [List.mem_singleton] at hh; subst hh; exact ⟨_,_,_,_,hm2⟩) (hbo' _ hsub) (by
           rw [List.map_append,List.nodup_append];refine ⟨hnd0 rfl,?_,?_⟩
           ·have:=S.nodup h2 _ hm2;simp only [Ob] at this;rw [q4];exact (List.nodup_append.1 this).2.1
           ·intro x hx1 y hx2 e;subst e;obtain ⟨z1,hz1,rfl⟩:=List.mem_map.1 hx1;obtain ⟨z2,hz2,e2⟩:=List.mem_map.1 hx2;obtain ⟨g,hg,blk,hgm,hgo⟩:=hfr0 rfl z1 hz1;refine S.disj g h2 _ _ hgm hm2 (by intro e; subst e; exact hnin hg) z1.1 hgo ?_
            have:=hob2 z2 hz2;rw [e2] at this;exact this) (fun z hz=>by
           rcases List.mem_append.1 hz with hz | hz
           ·obtain ⟨g,hg,r2⟩:=hfr0 rfl z hz;exact ⟨g,hsub g hg,r2⟩
           ·exact ⟨h2,by simp,_,hm2,hob2 z hz⟩) (fun h blk hm hh=>hother h blk hm fun hc=>hh (hsub h hc))
         exact ⟨v',w',_,_,β',fp',g1,hK,g2,g3⟩
        ·cases hmv
       ·cases hmv
      ·cases hmv
     ·split at h
      ·rename_i r hr;obtain ⟨hsz,hK⟩:=h;obtain ⟨news,f,q1,q2,q3,q4⟩:=yo hu2 hy hr;have hRf:∃ g0,RdL false w R.flatten (cs.toList.take (R.length * te.cells.length)) g0 /\ ∀ z ∈ g0,Lim s.m β z/\c.may false z:=by
        cases dp with
        | false=>exact ⟨f0,hR0,hf1 rfl⟩
        | true =>
         obtain ⟨g0,hg0,hsub⟩:=hR0.weak;refine ⟨g0,hg0,fun z hz=>?_⟩;have hz:=hsub z hz;obtain ⟨g,hg,hfg⟩:=hf0 rfl z hz;obtain ⟨d',hgm⟩:=hdead g hg;have hob:z.1 ∈ Ob β g (fp g) (.own ts.elem te.cells.length d' R):=by
          simp only [Ob,List.mem_append,List.mem_map];exact .inr ⟨z,by rw [hfg]; exact hz,rfl⟩
         refine ⟨⟨?_,?_⟩,.inr ⟨rfl,S.free g _ hgm _ hob⟩⟩
         ·rintro ⟨g',ty',vs,hg',hgv⟩;have hne:g ≠ g':=by intro e; subst e; rw [hgm] at hg'; cases hg'
          exact S.disj g g' _ _ hgm hg' hne _ hob (by simp [Ob,hgv])
         ·intro g' e1 k1 d1 R1 n1 c1 hg' hgv;by_cases hne:g=g'
          ·subst hne;have hnd:=S.nodup g _ hgm;simp only [Ob,hgv,List.cons_append,List.nil_append,List.nodup_cons,List.mem_map,not_exists,not_and] at hnd;exact absurd rfl (hnd.1 z (by rw [hfg]; exact hz))
          ·exact absurd (by simp [Ob,hgv]) (S.disj g g' _ _ hgm hg' hne _ hob)
       obtain ⟨g0,hg0,hg1⟩:=hRf;obtain ⟨v',w',β',fp',g1,g2,g3⟩:=oX hT S (f':=[]) (F:=g0++f) (dp:=false) (hs:=hb) (ty:=ty) hts hte he B q1 q2 hsz (by
        have:=hg0.append q3
        simpa using this) (by simp) (fun _=>⟨rfl,fun z hz=>by
         rcases List.mem_append.1 hz with hz | hz
         ·exact hg1 z hz
         ·exact q4 z hz⟩) hd hdead' (hbo' hb fun _ h=>h) (by simp) (by simp) hother
       exact ⟨v',w',_,_,β',fp',g1,hK,g2,g3⟩
      ·exact h.elim
   ·exact h.elim
  ·exact h.elim
 ·exact h.elim
end
structure Pas2 where
 p:Prop
 hs:List (Nat × Nat)
 vw:List Nat
def iU (m:Nat->Option Blk):AV->AV->Option Pas2
 | .int k n,.int k' n'=>some ⟨k=k'/\n=n',[],[]⟩
 | .bool b,.bool b'=>some ⟨b=b',[],[]⟩
 | .str s,.str s'=>some ⟨s=s',[],[]⟩
 | .raw v,.raw v'=>some ⟨v=v',[],[]⟩
 | .nil,.nil=>some ⟨True,[],[]⟩
 | .sl true _ rows,.nil=>some ⟨rows=[],[],[]⟩
 | .sl true k rows,.sl true k' r=>some ⟨k=k'/\rows=r,[],[]⟩
 | .sl true k rows,.own h _ _=>match m h with
  | some (.own _ k' true R)=>some ⟨k=k'/\rows=R,[],[h]⟩
  | _=>none
 | .own i k rows,.own h _ _=>match m h with
  | some (.own _ k' true R)=>some ⟨k=k'/\rows=R,[(i,h)],[]⟩
  | _=>none
 | _,_=>none
def jY (m:Nat->Option Blk):List AV->List AV->Option Pas2
 | [],[]=>some ⟨True,[],[]⟩
 | x :: xs,y :: ys=>match iU m x y,jY m xs ys with
  | some a,some b=>some ⟨a.p/\b.p,a.hs++b.hs,a.vw++b.vw⟩
  | _,_=>none
 | _,_=>none
def jZ (m:Nat->Option Blk):AV->AV->Option Pas2
 | .agg xs,.agg ys=>jY m xs ys
 | x,y=>iU m x y
def iv (m:Nat->Option Blk):List AV->List AV->Option Pas2
 | [],[]=>some ⟨True,[],[]⟩
 | x :: xs,y :: ys=>match jZ m x y,iv m xs ys with
  | some a,some b=>some ⟨a.p/\b.p,a.hs++b.hs,a.vw++b.vw⟩
  | _,_=>none
 | _,_=>none
def fO (m:Nat->Option Blk) (hs:List (Nat × Nat)):List (Nat × Nat × Nat × List (List D))->Prop
 | []=>True
 | (i,e,k,R) :: r=>(match ai hs i with | some h=>m h=some (.own e k true R) | none=>False)/\fO m hs r
theorem nY {m hs}:∀ {l:List (Nat × Nat × Nat × List (List D))},fO m hs l -> ∀ {i e k R},(i,e,k,R) ∈ l -> ∃ h,ai hs i=some h/\m h=some (.own e k true R):=by
 intro l
 induction l with
 | nil=>intro _ i e k R h; cases h
 | cons x l ih =>
  intro h i e k R hm;obtain ⟨i',e',k',R'⟩:=x;simp only [fO] at h;rcases List.mem_cons.1 hm with hm | hm
  ·cases hm;obtain ⟨h1,_⟩:=h;split at h1
   ·rename_i g hg; exact ⟨g,hg,h1⟩
   ·exact h1.elim
  ·exact ih h.2 hm
section
variable {w:World} {c:Cx} {s:St} {a:Act} {β:Nat->Value} {fp:Nat->List (Nat × Nat)} (S:SatI c s a w β fp)
def Tak2 (w:World) (s:St) (β:Nat->Value) (fp:Nat->List (Nat × Nat)) (c:Cx) (q:Pas2) (xs:List AV) (vs:List Value):Prop :=
 ∃ L:List (Nat × Nat),(∀ z ∈ L,z.1 < w.heap.size/\(c.F z \/ ∃ h ∈ q.vw,∃ e k R,s.m h=some (.own e k true R)/\z.1 ∈ Ob β h (fp h) (.own e k true R))) /\
  ∀ c' m' β',(∀ z ∈ L,c'.F z/\Lim m' β' z)->(∀ p ∈ q.hs,∀ e k R,s.m p.2=some (.own e k true R)->RelL w m' β' c' [.own p.1 k R] [β p.2])->RelL w m' β' c' xs vs
include S in
theorem xe {x y v q} (hq:iU s.m x y=some q) (hp:q.p) (hy:RelL w s.m β c [y] [v]):Tak2 w s β fp c q [x] [v]:=by
 have flat:∀ {p:Prop},(∀ c' m' β',RelL w m' β' c' [x] [v])->Tak2 w s β fp c ⟨p,[],[]⟩ [x] [v]:=fun h=>⟨[],by simp,fun c' m' β' _ _=>h c' m' β'⟩
 unfold iU at hq;split at hq <;> try (cases hq; done)
 ·cases hq; obtain ⟨rfl,rfl⟩:=hp; cases hy; exact flat fun _ _ _=>.int .lnil
 ·cases hq; cases hp; cases hy; exact flat fun _ _ _=>.bool .lnil
 ·cases hq; cases hp
  cases hy with
  | str h1 _=>exact flat fun _ _ _=>.str h1 .lnil
 ·cases hq; cases hp
  cases hy with
  | raw h1 _=>exact flat fun _ _ _=>.raw h1 .lnil
 ·cases hq;cases hy with
  | nil _=>exact flat fun _ _ _=>.nil .lnil
 ·cases hq; cases hp
  cases hy with
  | nil _=>exact flat fun _ _ _=>.sl ⟨0,[],.sl0 (by unfold maxLen; omega) (by simp) .nil,by simp⟩ .lnil
 ·cases hq; obtain ⟨rfl,rfl⟩:=hp
  cases hy with
  | sl h1 _ =>
   obtain ⟨t,f,hr,hl⟩:=h1;refine ⟨f,fun z hz=>⟨hr.lt z hz,.inl ?_⟩,fun c' m' β' hz _=>.sl ⟨t,f,hr,fun z hz'=>⟨(hz z hz').2,.inl (hz z hz').1⟩⟩ .lnil⟩;rcases (hl z hz).2 with h | ⟨h,_⟩
   ·exact h
   ·cases h
 ·rename_i k rows h _ _;split at hq
  ·rename_i e k' R hm;cases hq;obtain ⟨rfl,rfl⟩:=hp;cases hy with
   | own _ _ h3 _ =>
    obtain ⟨rfl,_⟩:=h3 _ _ _ _ hm;obtain ⟨hk,hR,h4⟩:=S.mem h _ hm;rcases h4 with ⟨q1,q2,q3⟩ | ⟨b,cap,cs,f0,q1,q2,q3,q4,q5,q6,q7,q8⟩
    ·subst q2;rw [q1];exact ⟨[],by simp,fun c' m' β' _ _=>.sl ⟨0,[],.sl0 (by unfold maxLen; omega) (by simp) .nil,by simp⟩ .lnil⟩
    ·by_cases h0:rows=[]
     ·subst h0;rw [q1];exact ⟨[],by simp,fun c' m' β' _ _=>.sl ⟨0,[],.sl0 q4 (by simp) .nil,by simp⟩ .lnil⟩
     ·have hpos:0 < rows.length:=List.length_pos_iff.2 h0;obtain ⟨f1,r1,r2⟩:=q6.weak;have hrd:RdL false w [.sl e k rows] [β h] ((b,0+(cs.toList.take (rows.length * k)).length) :: (f1++[])):=by
       rw [q1];exact .sl rfl (.inr hpos) q3 q4 hR q2 (by simp) (fun j u hu=>by
        rw [List.getElem?_take] at hu;split at hu
        ·simpa using hu
        ·cases hu) r1 .nil
      refine ⟨_,fun z hz=>⟨hrd.lt z hz,.inr ⟨h,by simp,e,k,rows,hm,?_⟩⟩,fun c' m' β' hz _=>.sl ⟨e,_,hrd,fun z hz'=>⟨(hz z hz').2,.inl (hz z hz').1⟩⟩ .lnil⟩
      simp only [List.append_nil,List.mem_cons] at hz;rcases hz with rfl | hz
      ·simp [Ob,q1]
      ·simp only [Ob,List.mem_append,List.mem_map];exact .inr ⟨z,by rw [q7 rfl]; exact r2 z hz,rfl⟩
  ·cases hq
 ·rename_i i k rows h _ _;split at hq
  ·rename_i e k' R hm;cases hq;obtain ⟨rfl,rfl⟩:=hp;cases hy with
   | own _ _ h3 _ =>
    obtain ⟨rfl,_⟩:=h3 _ _ _ _ hm;exact ⟨[],by simp,fun c' m' β' _ hh=>hh (i,h) (by simp) e k rows hm⟩
  ·cases hq
theorem Tak2.cons {p1 p2:Prop} {h1 h2 e1 e2} {x v xs vs} (A:Tak2 w s β fp c ⟨p1,h1,e1⟩ [x] [v]) (B:Tak2 w s β fp c ⟨p2,h2,e2⟩ xs vs) :
  Tak2 w s β fp c ⟨p1/\p2,h1++h2,e1++e2⟩ (x :: xs) (v :: vs):=by
 obtain ⟨L1,a1,a2⟩:=A;obtain ⟨L2,b1,b2⟩:=B;refine ⟨L1++L2,fun z hz=>?_,fun c' m' β' hz hh=>?_⟩
 ·rcases List.mem_append.1 hz with hz | hz
  ·obtain ⟨q1,q2⟩:=a1 z hz;exact ⟨q1,q2.imp id fun ⟨h,hh,q⟩=>⟨h,List.mem_append_left _ hh,q⟩⟩
  ·obtain ⟨q1,q2⟩:=b1 z hz;exact ⟨q1,q2.imp id fun ⟨h,hh,q⟩=>⟨h,List.mem_append_right _ hh,q⟩⟩
 ·exact (a2 c' m' β' (fun z hz'=>hz z (List.mem_append_left _ hz')) (fun p hp=>hh p (List.mem_append_left _ hp))).append
   (b2 c' m' β' (fun z hz'=>hz z (List.mem_append_right _ hz')) (fun p hp=>hh p (List.mem_append_right _ hp)))
include S in
theorem Mv:∀ {xs ys vs q},jY s.m xs ys=some q->q.p->RelL w s.m β c ys vs->Tak2 w s β fp c q xs vs:=by
 intro xs
 induction xs with
 | nil =>
  intro ys vs q hq hp hy;cases ys with
  | nil=>cases hq; cases hy; exact ⟨[],by simp,fun _ _ _ _ _=>.lnil⟩
  | cons y ys=>cases hq
 | cons x xs ih =>
  intro ys vs q hq hp hy;cases ys with
  | nil=>cases hq
  | cons y ys =>
   obtain ⟨v,vs',rfl,h1,h2⟩:=hy.uncons;unfold jY at hq;split at hq
   ·rename_i A B ha hb;cases hq;exact (xe S ha hp.1 h1).cons (ih hb hp.2 h2)
   ·cases hq
include S in
theorem My {x y v q} (hq:jZ s.m x y=some q) (hp:q.p) (hy:RelL w s.m β c [y] [v]):Tak2 w s β fp c q [x] [v]:=by
 unfold jZ at hq;split at hq
 ·cases hy with
  | agg h1 h2 _ =>
   obtain ⟨L,a1,a2⟩:=Mv S hq hp h1;exact ⟨L,a1,fun c' m' β' hz hh=>.agg (a2 c' m' β' hz hh) h2 .lnil⟩
 ·exact xe S hq hp hy
include S in
theorem MB:∀ {xs ys vs q},iv s.m xs ys=some q->q.p->RelL w s.m β c ys vs->Tak2 w s β fp c q xs vs:=by
 intro xs
 induction xs with
 | nil =>
  intro ys vs q hq hp hy;cases ys with
  | nil=>cases hq; cases hy; exact ⟨[],by simp,fun _ _ _ _ _=>.lnil⟩
  | cons y ys=>cases hq
 | cons x xs ih =>
  intro ys vs q hq hp hy;cases ys with
  | nil=>cases hq
  | cons y ys =>
   obtain ⟨v,vs',rfl,h1,h2⟩:=hy.uncons;unfold iv at hq;split at hq
   ·rename_i A B ha hb;cases hq;exact (My S ha hp.1 h1).cons (ih hb hp.2 h2)
   ·cases hq
end
def jV (hs:List (Nat × Nat)) (keys:List Nat):Prop :=
 (∀ p ∈ hs,ai hs p.1=some p.2/\p.1 ∈ keys)/\keys.Nodup/\(keys.map (ai hs)).Nodup
def dJ (w:World) (m:Nat->Option Blk) (β:Nat->Value) (fp:Nat->List (Nat × Nat)) (hs:List (Nat × Nat)) (keys:List Nat) (b:Nat):Prop :=
 b < w.heap.size /\ ∀ i ∈ keys,∀ h,ai hs i=some h -> ∀ blk,m h=some blk->b ∉ Ob β h (fp h) blk
def cT (fp:Nat->List (Nat × Nat)) (hs:List (Nat × Nat)) (i:Nat):List (Nat × Nat):=match ai hs i with | some h=>fp h | none=>[]
abbrev gn (w:World) (m:Nat->Option Blk) (β:Nat->Value) (fp:Nat->List (Nat × Nat)) (hs:List (Nat × Nat)) (k:Con) (x:k.A) (L:List (Nat × Nat)):Cx :=
 ⟨L,dJ w m β fp hs ((k.owns x).map (·.1)),w,k.n,k.pins2 x (aI β hs)⟩
section
variable {w:World} {c:Cx} {s:St} {a:Act} {β:Nat->Value} {fp:Nat->List (Nat × Nat)} (S:SatI c s a w β fp)
include S
theorem zG {k:Con} {x:k.A} {us:List AV} {vs:List Value} {A:Pas2} (hr:RelL w s.m β c us vs) (hA:iv s.m (k.args x) us=some A) (hAp:A.p) (hbx:k.boxes x=[])
  (hown:fO s.m A.hs (k.owns x)) (hok:jV A.hs ((k.owns x).map (·.1))) (hvw:∀ h ∈ A.vw,∀ p ∈ A.hs,p.2 ≠ h) (hlend:∀ i ∈ k.lends,i ∈ (k.owns x).map (·.1)) (hn:vs.length<=k.n) :
  ∃ L:List (Nat × Nat),SatI (gn w s.m β fp A.hs k x L) (k.start2 x) ⟨vs.toArray++Array.replicate (k.n - vs.length) undef,[]⟩ w (aI β A.hs) (cT fp A.hs):=by
 obtain ⟨L,hL,a2⟩:=MB S hA hAp hr;refine ⟨L,?_⟩;have hst:∀ i blk,(k.start2 x).m i=some blk -> ∃ e kk R h,(i,e,kk,R) ∈ k.owns x/\blk = .own e kk true R/\ai A.hs i=some h/\s.m h=some (.own e kk true R):=by
  intro i blk hi;have:=c8 hi;simp only [hbx,List.map_nil,List.nil_append,List.mem_map] at this;obtain ⟨⟨i',e,kk,R⟩,h1,h2⟩:=this;cases h2;obtain ⟨h,q1,q2⟩:=nY hown h1;exact ⟨e,kk,R,h,h1,rfl,q1,q2⟩
 have hOb:∀ i h,ai A.hs i=some h -> ∀ blk,Ob (aI β A.hs) i (cT fp A.hs i) blk=Ob β h (fp h) blk:=by
  intro i h hi blk;have e1:aI β A.hs i = β h:=by simp [aI,hi]
  have e2:cT fp A.hs i=fp h:=by simp [cT,hi]
  rw [e2]; unfold Ob; rw [e1]
 have hinj:∀ i i' h,i ∈ (k.owns x).map (·.1)->i' ∈ (k.owns x).map (·.1)->ai A.hs i=some h->ai A.hs i'=some h->i=i' :=
  fun i i' h m1 m2 h1 h2=>ma hok.2.2 m1 m2 (h1.trans h2.symm)
 have hfree:∀ i blk,(k.start2 x).m i=some blk -> ∀ y ∈ Ob (aI β A.hs) i (cT fp A.hs i) blk,¬ dJ w s.m β fp A.hs ((k.owns x).map (·.1)) y:=by
  intro i blk hi y hy hG;obtain ⟨e,kk,R,h,q1,rfl,q3,q4⟩:=hst i blk hi;rw [hOb i h q3] at hy;exact hG.2 i (List.mem_map.2 ⟨_,q1,rfl⟩) h q3 _ q4 hy
 have hdisj:∀ i i' blk blk',(k.start2 x).m i=some blk->(k.start2 x).m i'=some blk'->i ≠ i' -> ∀ y ∈ Ob (aI β A.hs) i (cT fp A.hs i) blk,y ∉ Ob (aI β A.hs) i' (cT fp A.hs i') blk':=by
  intro i i' blk blk' hi hi' hne y hy hy';obtain ⟨e,kk,R,h,q1,rfl,q3,q4⟩:=hst i blk hi;obtain ⟨e',kk',R',h',q1',rfl,q3',q4'⟩:=hst i' blk' hi';rw [hOb i h q3] at hy;rw [hOb i' h' q3'] at hy';refine S.disj h h' _ _ q4 q4' (fun e=>?_) y hy hy';subst e;exact hne (hinj i i' h (List.mem_map.2 ⟨_,q1,rfl⟩) (List.mem_map.2 ⟨_,q1',rfl⟩) q3 q3')
 have hnd:∀ i blk,(k.start2 x).m i=some blk->(Ob (aI β A.hs) i (cT fp A.hs i) blk).Nodup:=by
  intro i blk hi;obtain ⟨e,kk,R,h,q1,rfl,q3,q4⟩:=hst i blk hi;rw [hOb i h q3]; exact S.nodup h _ q4
 have hmem:∀ i e kk R h,ai A.hs i=some h->s.m h=some (.own e kk true R)->BlkOk w (k.start2 x).m (aI β A.hs) (gn w s.m β fp A.hs k x L) i (cT fp A.hs i) (.own e kk true R):=by
  intro i e kk R h q3 q4;have e1:aI β A.hs i = β h:=by simp [aI,q3]
  have e2:cT fp A.hs i=fp h:=by simp [cT,q3]
  obtain ⟨p1,p2,p3⟩:=S.mem h _ q4;refine ⟨p1,p2,?_⟩;rw [e1,e2];rcases p3 with p3 | ⟨b,cap,cs,f0,r1,r2,r3,r4,r5,r6,r7,r8⟩
  ·exact .inl p3
  ·exact .inr ⟨b,cap,cs,f0,r1,r2,r3,r4,r5,r6,r7,by simp⟩
 have hLG:∀ z ∈ L,dJ w s.m β fp A.hs ((k.owns x).map (·.1)) z.1:=by
  intro z hz;obtain ⟨q1,q2⟩:=hL z hz;refine ⟨q1,fun i hi h hh blk hm hzo=>?_⟩;rcases q2 with q2 | ⟨g,hg,e,kk,R,hgm,hgo⟩
  ·exact S.free h blk hm z.1 hzo (S.fg z q2)
  ·exact S.disj g h _ _ hgm hm (Ne.symm (hvw g hg (i,h) (c8 hh))) z.1 hgo hzo
 have hlim:∀ z:Nat × Nat,dJ w s.m β fp A.hs ((k.owns x).map (·.1)) z.1->Lim (k.start2 x).m (aI β A.hs) z:=by
  intro z hz;refine ⟨?_,?_⟩
  ·rintro ⟨i,ty,av,hi,hb⟩;obtain ⟨_,_,_,_,_,e,_⟩:=hst i _ hi;cases e
  ·intro i e kk d R n cc hi hb;exact absurd hz (hfree i _ hi z.1 (by simp [Ob,hb]))
 have hownrel:∀ p ∈ A.hs,∀ e kk R,s.m p.2=some (.own e kk true R)->RelL w (k.start2 x).m (aI β A.hs) (gn w s.m β fp A.hs k x L) [.own p.1 kk R] [β p.2]:=by
  intro p hp e kk R hm;obtain ⟨q1,q2⟩:=hok.1 p hp;obtain ⟨⟨i',e',kk',R'⟩,hi',hpe⟩:=List.mem_map.1 q2;simp only at hpe;subst hpe;obtain ⟨h,r1,r2⟩:=nY hown hi';rw [q1] at r1;cases r1;rw [hm] at r2;cases r2;have hsm:(k.start2 x).m p.1=some (.own e kk true R):=by
   obtain ⟨v,hv⟩:=ig (l:=(k.owns x).map fun b=>(b.1,Blk.own b.2.1 b.2.2.1 true b.2.2.2)) (i:=p.1) (by simp only [List.map_map,List.mem_map]; exact ⟨_,hi',rfl⟩)
   have hv':(k.start2 x).m p.1=some v:=by simp [Con.start2,hbx,hv]
   obtain ⟨e2,kk2,R2,h2,_,rfl,s3,s4⟩:=hst _ _ hv';rw [q1] at s3;cases s3;rw [hm] at s4;cases s4;exact hv'
  have:=iu (fps:=cT fp A.hs) (c:=gn w s.m β fp A.hs k x L) hsm (hmem p.1 e kk R p.2 q1 hm) (hnd p.1 _ hsm) (fun h' blk' hm' hne=>hdisj p.1 h' _ blk' hsm hm' (Ne.symm hne)) (hfree p.1 _ hsm);have e1:aI β A.hs p.1 = β p.2:=by simp [aI,q1]
  rwa [e1] at this
 have hargs:=a2 (gn w s.m β fp A.hs k x L) (k.start2 x).m (aI β A.hs) (fun z hz=>⟨⟨z,hz,rfl,Nat.le_refl _⟩,hlim z (hLG z hz)⟩) hownrel;refine ⟨?_,?_,hnd,hdisj,hfree,?_,fun b hb=>⟨hb.1,rfl⟩,rfl,rfl,rfl,Nat.le_refl _,rfl,?_,?_⟩
 ·intro t g av ht;simp only [Con.start2,Option.map_eq_some_iff] at ht;obtain ⟨v,hv,he⟩:=ht;cases he;obtain ⟨u,hu,hru⟩:=hargs.at1 hv;have hlt:t < vs.length:=(List.getElem?_eq_some_iff.1 hu).1;have hsz:t < (vs.toArray++Array.replicate (k.n - vs.length) undef).size:=by simp; omega
  have hget:(vs.toArray++Array.replicate (k.n - vs.length) undef).getD t undef=u:=by
   rw [Array.getD_eq_getD_getElem?,Array.getElem?_append_left (by simpa using hlt)]
   simp [hu]
  exact ⟨hsz,fun _=>by rw [hget]; exact hru,by simp⟩
 ·intro i blk hi;obtain ⟨e,kk,R,h,q1,rfl,q3,q4⟩:=hst i blk hi;exact hmem i e kk R h q3 q4
 ·rintro y ⟨z,hz,e1,e2⟩;rw [e1];exact hLG z hz
 ·simp; omega
 ·intro p hp;replace hp:p ∈ k.pins2 x (aI β A.hs):=hp;unfold Con.pins2 at hp;rw [hbx] at hp;simp only [List.map_nil,List.nil_append,List.mem_map] at hp;obtain ⟨i,hi,rfl⟩:=hp;refine ⟨rfl,?_⟩;obtain ⟨⟨i',e,kk,R⟩,hi',rfl⟩:=List.mem_map.1 (hlend i hi);obtain ⟨v,hv⟩:=ig (l:=(k.owns x).map fun b=>(b.1,Blk.own b.2.1 b.2.2.1 true b.2.2.2)) (i:=i') (by simp only [List.map_map,List.mem_map]; exact ⟨_,hi',rfl⟩)
  simp [Con.start2,hbx,hv]
end
def jg (hs:List (Nat × Nat)) (d:Nat) (m:Nat->Option Blk) (lends:List Nat):List (Nat × Blk)->Prop
 | []=>True
 | (j,.own e k true _) :: r=>(match ai hs j with
  | some h=>j ∈ lends/\(match m h with | some (.own e' k' true _)=>e'=e/\k'=k | _=>False)
  | none=>m (d+j)=none)/\jg hs d m lends r
 | _=>False
theorem nH {hs d m lends}:∀ {l:List (Nat × Blk)},jg hs d m lends l -> ∀ {j b},(j,b) ∈ l -> ∃ e k R,b = .own e k true R /\
  ((∃ h,ai hs j=some h/\j ∈ lends /\ ∃ R0,m h=some (.own e k true R0)) \/ (ai hs j=none/\m (d+j)=none)):=by
 intro l
 induction l with
 | nil=>intro _ j b h; cases h
 | cons p l ih =>
  intro h j b hm;obtain ⟨i,x⟩:=p;have hx:∃ e k R,x = .own e k true R:=by
   cases x with
   | own e k dp R=>cases dp with
    | true=>exact ⟨e,k,R,rfl⟩
    | false=>exact h.elim
   | box ty vs=>exact h.elim
   | dead=>exact h.elim
  obtain ⟨e,k,R,rfl⟩:=hx;obtain ⟨h1,h2⟩:=h;rcases List.mem_cons.1 hm with hm | hm
  ·cases hm;refine ⟨e,k,R,rfl,?_⟩;split at h1
   ·rename_i g hg;obtain ⟨q1,q2⟩:=h1;refine .inl ⟨g,hg,q1,?_⟩;split at q2
    ·rename_i e' k' R' hmg;obtain ⟨rfl,rfl⟩:=q2;exact ⟨R',hmg⟩
    ·exact q2.elim
   ·rename_i hg; exact .inr ⟨hg,h1⟩
  ·exact ih h2 hm
abbrev m2 (hs:List (Nat × Nat)) (d:Nat) (m:Nat->Option Blk) (fin:List (Nat × Blk)):Nat->Option Blk:=over (bz (hs.map (·.2)) m) (rho hs d) (fun _ b=>some b) fin
abbrev β2 (hs:List (Nat × Nat)) (d:Nat) (β β':Nat->Value) (fin:List (Nat × Blk)):Nat->Value:=over β (rho hs d) (fun j _=>β' j) fin
abbrev fp2 (hs:List (Nat × Nat)) (d:Nat) (fp fp':Nat->List (Nat × Nat)) (fin:List (Nat × Blk)):Nat->List (Nat × Nat):=over (fun h=>if h ∈ hs.map (·.2) then [] else fp h) (rho hs d) (fun j _=>fp' j) fin
def ge (R:Nat->Nat) (m1:Nat->Option Blk):AV->AV
 | .int k n=>.int k n
 | .bool b=>.bool b
 | .str s=>.str s
 | .raw v=>.raw v
 | .nil=>.nil
 | .own j k r=>(AV.own (R j) k r).wipe1 m1
 | _=>.junk
def gg (R:Nat->Nat) (m1:Nat->Option Blk):AV->AV
 | .agg vs=>.agg (vs.map (ge R m1))
 | v=>ge R m1 v
def eK (R:Nat->Nat) (m1:Nat->Option Blk):AV->AV
 | .tup vs=>.tup (vs.map (gg R m1))
 | v=>gg R m1 v
section
variable {w:World} {c:Cx} {s:St} {a:Act} {β:Nat->Value} {fp:Nat->List (Nat × Nat)} (S:SatI c s a w β fp)
 {k:Con} {x:k.A} {y:k.X} {hs:List (Nat × Nat)} {d:Nat} {L:List (Nat × Nat)} {a':Act} {w':World} {β':Nat->Value} {fp':Nat->List (Nat × Nat)}
 (E:SatI (gn w s.m β fp hs k x L) (k.end_ x y) a' w' β' fp') (hbx:k.boxes x=[])
 (hown:fO s.m hs (k.owns x)) (hok:jV hs ((k.owns x).map (·.1))) (hlend:∀ i ∈ k.lends,i ∈ (k.owns x).map (·.1))
 (hk:((k.fin x y).map (·.1)).Nodup) (hr:((k.fin x y).map fun p=>rho hs d p.1).Nodup) (hf:jg hs d s.m k.lends (k.fin x y))
include S E hbx hown hok hlend hk hr hf
theorem nG {j b} (h:(j,b) ∈ k.fin x y):(k.end_ x y).m j=some b:=by
 obtain ⟨v,hv⟩:=ig (l:=k.fin x y) (i:=j) (List.mem_map.2 ⟨_,h,rfl⟩);have hm:=c8 hv;have:((j,v):Nat × Blk)=(j,b):=ma hk hm h rfl;cases this;exact hv
theorem KJ {i h} (hi:i ∈ k.lends) (hh:ai hs i=some h):β' i = β h:=by
 have:=(E.pin (i,aI β hs i) (by
  show _ ∈ k.pins2 x (aI β hs)
  unfold Con.pins2;exact List.mem_append_right _ (List.mem_map.2 ⟨i,hi,rfl⟩))).1
 simpa [aI,hh] using this
theorem wd {h blk} (hst:¬ (h ∉ hs.map (·.2) /\ ∀ p ∈ k.fin x y,rho hs d p.1 ≠ h)) (hm:m2 hs d s.m (k.fin x y) h=some blk) :
  (∃ j,(j,blk) ∈ k.fin x y/\rho hs d j=h /\ β2 hs d β β' (k.fin x y) h = β' j/\fp2 hs d fp fp' (k.fin x y) h=fp' j) \/
  (h ∈ hs.map (·.2)/\blk = .dead /\ β2 hs d β β' (k.fin x y) h = β h/\fp2 hs d fp fp' (k.fin x y) h=[]):=by
 by_cases hex:∃ p ∈ k.fin x y,rho hs d p.1=h
 ·obtain ⟨⟨j,b⟩,hp,rfl⟩:=hex;have e1:m2 hs d s.m (k.fin x y) (rho hs d j)=some b:=df (g:=fun _ b=>some b) hr hp;rw [hm] at e1;cases e1;exact .inl ⟨j,hp,rfl,df (g:=fun j _=>β' j) hr hp,df (g:=fun j _=>fp' j) hr hp⟩
 ·have hex':∀ p ∈ k.fin x y,rho hs d p.1 ≠ h:=fun p hp he=>hex ⟨p,hp,he⟩;have hin:h ∈ hs.map (·.2):=Classical.byContradiction fun hc=>hst ⟨hc,hex'⟩;have e1:m2 hs d s.m (k.fin x y) h=some .dead:=by
   rw [show m2 hs d s.m (k.fin x y) h=bz (hs.map (·.2)) s.m h from cC hex']
   exact eE hin
  rw [hm] at e1;cases e1;refine .inr ⟨hin,rfl,cC hex',?_⟩;rw [show fp2 hs d fp fp' (k.fin x y) h=(if h ∈ hs.map (·.2) then [] else fp h) from cC hex',if_pos hin]
theorem ob2 {h blk} (hst:¬ (h ∉ hs.map (·.2) /\ ∀ p ∈ k.fin x y,rho hs d p.1 ≠ h)) (hm:m2 hs d s.m (k.fin x y) h=some blk) :
  (∃ j,(j,blk) ∈ k.fin x y/\rho hs d j=h/\Ob (β2 hs d β β' (k.fin x y)) h (fp2 hs d fp fp' (k.fin x y) h) blk=Ob β' j (fp' j) blk) \/ Ob (β2 hs d β β' (k.fin x y)) h (fp2 hs d fp fp' (k.fin x y) h) blk=[]:=by
 rcases wd S E hbx hown hok hlend hk hr hf hst hm with ⟨j,q1,q2,q3,q4⟩ | ⟨_,rfl,_,q4⟩
 ·refine .inl ⟨j,q1,q2,?_⟩;rw [q4]; unfold Ob; rw [q3]
 ·refine .inr ?_;rw [q4]; simp [Ob]
theorem uZ:Chg c s w β fp w' (m2 hs d s.m (k.fin x y)) (β2 hs d β β' (k.fin x y)) (fp2 hs d fp fp' (k.fin x y)) (fun h=>h ∉ hs.map (·.2) /\ ∀ p ∈ k.fin x y,rho hs d p.1 ≠ h):=by
 have keep:∀ b,b < w.heap.size->(∀ g blk,g ∈ hs.map (·.2)->s.m g=some blk->b ∉ Ob β g (fp g) blk)->dJ w s.m β fp hs ((k.owns x).map (·.1)) b :=
  fun b hb hn=>⟨hb,fun i hi g hg blk hm=>hn g blk (List.mem_map.2 ⟨_,c8 hg,rfl⟩) hm⟩
 have KG:∀ b,c.G b->dJ w s.m β fp hs ((k.owns x).map (·.1)) b:=fun b hG=>keep b (Nat.lt_of_lt_of_le (S.old b hG).1 S.size) fun g blk _ hm hb=>S.free g blk hm b hb hG;have KS:∀ h blk,h ∉ hs.map (·.2)->s.m h=some blk -> ∀ b ∈ Ob β h (fp h) blk,dJ w s.m β fp hs ((k.owns x).map (·.1)) b :=
  fun h blk hn hm b hb=>keep b ((S.mem h blk hm).lt b hb) fun g blk' hg hm' hb'=>S.disj h g blk blk' hm hm' (by intro e; subst e; exact hn hg) b hb hb'
 have FR:∀ j b,(j,b) ∈ k.fin x y -> ∀ z ∈ Ob β' j (fp' j) b,¬ dJ w s.m β fp hs ((k.owns x).map (·.1)) z :=
  fun j b hj=>E.free j b (nG S E hbx hown hok hlend hk hr hf hj)
 have O:=fun h blk hst hm=>ob2 (d:=d) S E hbx hown hok hlend hk hr hf (h:=h) (blk:=blk) hst hm;refine ⟨fun b hG=>(E.old b (KG b hG)).2,E.size,E.os,E.tape,E.output,fun h hst=>⟨?_,cC hst.2,?_⟩,fun h blk hst hm b hb=>(E.old b (KS h blk hst.1 hm b hb)).2,?_,?_,?_,?_,?_,?_,?_⟩
 ·rw [show m2 hs d s.m (k.fin x y) h=bz (hs.map (·.2)) s.m h from cC hst.2]
  exact dD hst.1
 ·rw [show fp2 hs d fp fp' (k.fin x y) h=(if h ∈ hs.map (·.2) then [] else fp h) from cC hst.2,if_neg hst.1]
 ·intro h blk hst hm;rcases wd S E hbx hown hok hlend hk hr hf hst hm with ⟨j,q1,q2,q3,q4⟩ | ⟨_,rfl,_,q4⟩
  ·obtain ⟨e,kk,R,rfl,_⟩:=nH hf q1;refine .inr (.inl ⟨e,kk,R,rfl,?_⟩);obtain ⟨p1,p2,p3⟩:=E.mem j _ (nG S E hbx hown hok hlend hk hr hf q1);refine ⟨p1,p2,?_⟩;rw [q3,q4];rcases p3 with p3 | ⟨b,cap,cs,f0,r1,r2,r3,r4,r5,r6,r7,r8⟩
   ·exact .inl p3
   ·exact .inr ⟨b,cap,cs,f0,r1,r2,r3,r4,r5,r6,r7,by simp⟩
  ·exact .inl ⟨rfl,q4⟩
 ·intro h blk hst hm;rcases O h blk hst hm with ⟨j,q1,q2,q3⟩ | q3
  ·rw [q3]; exact E.nodup j _ (nG S E hbx hown hok hlend hk hr hf q1)
  ·rw [q3]; exact List.nodup_nil
 ·intro h blk hst hm b hb hG;rcases O h blk hst hm with ⟨j,q1,q2,q3⟩ | q3
  ·rw [q3] at hb;exact FR j blk q1 b hb (KG b hG)
  ·rw [q3] at hb; cases hb
 ·intro h blk hst hm b hb h' blk' hst' hm' hb';rcases O h blk hst hm with ⟨j,q1,q2,q3⟩ | q3
  ·rw [q3] at hb;exact FR j blk q1 b hb (KS h' blk' hst'.1 hm' b hb')
  ·rw [q3] at hb; cases hb
 ·intro h blk h' blk' hst hm hst' hm' hne b hb hb';rcases O h blk hst hm with ⟨j,q1,q2,q3⟩ | q3
  ·rcases O h' blk' hst' hm' with ⟨j',q1',q2',q3'⟩ | q3'
   ·rw [q3] at hb;rw [q3'] at hb';exact E.disj j j' _ _ (nG S E hbx hown hok hlend hk hr hf q1) (nG S E hbx hown hok hlend hk hr hf q1') (by intro e; subst e; exact hne (q2.symm.trans q2')) b hb hb'
   ·rw [q3'] at hb'; cases hb'
  ·rw [q3] at hb; cases hb
 ·intro h hh;by_cases hst:h ∉ hs.map (·.2) /\ ∀ p ∈ k.fin x y,rho hs d p.1 ≠ h
  ·refine ⟨?_,cC hst.2⟩;rw [show m2 hs d s.m (k.fin x y) h=bz (hs.map (·.2)) s.m h from cC hst.2,dD hst.1]
   exact hh
  ·by_cases hex:∃ p ∈ k.fin x y,rho hs d p.1=h
   ·obtain ⟨⟨j,b⟩,hp,rfl⟩:=hex;have e1:m2 hs d s.m (k.fin x y) (rho hs d j)=some b:=df (g:=fun _ b=>some b) hr hp;have e2:β2 hs d β β' (k.fin x y) (rho hs d j) = β' j:=df (g:=fun j _=>β' j) hr hp;refine ⟨by rw [e1]; rfl,?_⟩
    obtain ⟨e,kk,R,rfl,q | ⟨q1,q2⟩⟩:=nH hf hp
    ·obtain ⟨g,g1,g2,_⟩:=q;rw [e2,KJ S E hbx hown hok hlend hk hr hf g2 g1];simp [rho,g1]
    ·exfalso;simp only [rho,q1] at hh;rw [q2] at hh;cases hh
   ·have hex':∀ p ∈ k.fin x y,rho hs d p.1 ≠ h:=fun p hp he=>hex ⟨p,hp,he⟩;have hin:h ∈ hs.map (·.2):=Classical.byContradiction fun hc=>hst ⟨hc,hex'⟩;refine ⟨?_,cC hex'⟩;rw [show m2 hs d s.m (k.fin x y) h=bz (hs.map (·.2)) s.m h from cC hex',eE hin]
    rfl
 ·intro h e kk R hh hm;by_cases hst:h ∉ hs.map (·.2) /\ ∀ p ∈ k.fin x y,rho hs d p.1 ≠ h
  ·rw [show m2 hs d s.m (k.fin x y) h=bz (hs.map (·.2)) s.m h from cC hst.2,dD hst.1] at hm
   exact ⟨true,R,hm⟩
  ·rcases wd S E hbx hown hok hlend hk hr hf hst hm with ⟨j,q1,rfl,q3,q4⟩ | ⟨_,e0,_,_⟩
   ·obtain ⟨e',kk',R',e0,q | ⟨r1,r2⟩⟩:=nH hf q1
    ·cases e0;obtain ⟨g,g1,_,R0,g2⟩:=q;refine ⟨true,R0,?_⟩
     simpa [rho,g1] using g2
    ·exfalso;simp only [rho,r1] at hh;rw [r2] at hh;cases hh
   ·cases e0
theorem yu {v u} (h:RelL w' (k.end_ x y).m β' (gn w s.m β fp hs k x L) [v] [u]) :
  RelL w' (wm (m2 hs d s.m (k.fin x y))) (β2 hs d β β' (k.fin x y)) c [ge (rho hs d) (m2 hs d s.m (k.fin x y)) v] [u]:=by
 have C:=uZ (d:=d) S E hbx hown hok hlend hk hr hf;cases h with
 | int _=>exact .int .lnil
 | bool _=>exact .bool .lnil
 | str h1 _=>exact .str h1 .lnil
 | raw h1 _=>exact .raw h1 .lnil
 | nil _=>exact .nil .lnil
 | @own j kk rows _ _ _ h1 h2 h3 _ =>
  obtain ⟨b,hb⟩:=Option.isSome_iff_exists.1 h1;have hmem:(j,b) ∈ k.fin x y:=c8 hb;obtain ⟨e,kk',R,rfl,_⟩:=nH hf hmem;obtain ⟨rfl,_⟩:=h3 _ _ _ _ hb;have e1:m2 hs d s.m (k.fin x y) (rho hs d j)=some (.own e kk' true R):=df (g:=fun _ b=>some b) hr hmem;have e2:β2 hs d β β' (k.fin x y) (rho hs d j) = β' j:=df (g:=fun j _=>β' j) hr hmem;simp only [ge,AV.wipe1,e1];have hw:wm (m2 hs d s.m (k.fin x y)) (rho hs d j)=some (.own e kk' true R):=by simp only [wm,e1,Option.map_some,Blk.wipe]
  have:=iu (fps:=fp2 hs d fp fp' (k.fin x y)) hw (C.ownOk S e1) (C.nodup' S hw) (fun h' blk' hm' hne=>C.disj' S hw hm' (Ne.symm hne)) (C.free' S hw)
  rwa [e2] at this
 | _=>exact .junk .lnil
theorem E5:∀ {vs us},RelL w' (k.end_ x y).m β' (gn w s.m β fp hs k x L) vs us ->
  RelL w' (wm (m2 hs d s.m (k.fin x y))) (β2 hs d β β' (k.fin x y)) c (vs.map (ge (rho hs d) (m2 hs d s.m (k.fin x y)))) us:=by
 intro vs
 induction vs with
 | nil=>intro us h; cases h; exact .lnil
 | cons v vs ih =>
  intro us h;obtain ⟨u,us',rfl,h1,h2⟩:=h.uncons;exact (yu S E hbx hown hok hlend hk hr hf h1).append (ih h2)
theorem yv {v u} (h:RelL w' (k.end_ x y).m β' (gn w s.m β fp hs k x L) [v] [u]) :
  RelL w' (wm (m2 hs d s.m (k.fin x y))) (β2 hs d β β' (k.fin x y)) c [gg (rho hs d) (m2 hs d s.m (k.fin x y)) v] [u]:=by
 unfold gg;split
 ·cases h with
  | agg h1 h2 _=>exact .agg (E5 S E hbx hown hok hlend hk hr hf h1) h2 .lnil
 ·exact yu S E hbx hown hok hlend hk hr hf h
theorem E6:∀ {vs us},RelL w' (k.end_ x y).m β' (gn w s.m β fp hs k x L) vs us ->
  RelL w' (wm (m2 hs d s.m (k.fin x y))) (β2 hs d β β' (k.fin x y)) c (vs.map (gg (rho hs d) (m2 hs d s.m (k.fin x y)))) us:=by
 intro vs
 induction vs with
 | nil=>intro us h; cases h; exact .lnil
 | cons v vs ih =>
  intro us h;obtain ⟨u,us',rfl,h1,h2⟩:=h.uncons;exact (yv S E hbx hown hok hlend hk hr hf h1).append (ih h2)
theorem yw {v u} (h:RelL w' (k.end_ x y).m β' (gn w s.m β fp hs k x L) [v] [u]) :
  RelL w' (wm (m2 hs d s.m (k.fin x y))) (β2 hs d β β' (k.fin x y)) c [eK (rho hs d) (m2 hs d s.m (k.fin x y)) v] [u]:=by
 unfold eK;split
 ·cases h with
  | tup h1 _=>exact .tup (E6 S E hbx hown hok hlend hk hr hf h1) .lnil
 ·exact yv S E hbx hown hok hlend hk hr hf h
end
def gR (k:Con) (d:Nat) (us:List AV) (conds:Bool) (s:St) (K:AV->St->Prop):Prop :=
 ∃ x:k.A,match iv s.m (k.args x) us with
  | none=>False
  | some A=>k.boxes x=[]/\A.p/\fO s.m A.hs (k.owns x)/\jV A.hs ((k.owns x).map (·.1))/\(∀ h ∈ A.vw,∀ p ∈ A.hs,p.2 ≠ h)/\(∀ i ∈ k.lends,i ∈ (k.owns x).map (·.1))/\us.length<=k.n/\conds=true/\k.pre x /\
    ∀ y,k.post x y->((k.fin x y).map (·.1)).Nodup/\((k.fin x y).map fun p=>rho A.hs d p.1).Nodup/\jg A.hs d s.m k.lends (k.fin x y) /\
     K (eK (rho A.hs d) (m2 A.hs d s.m (k.fin x y)) (k.res x y)) (s.wipe (m2 A.hs d s.m (k.fin x y)))
theorem B7 {m}:∀ {xs ys q},iv m xs ys=some q->xs.length=ys.length:=by
 intro xs
 induction xs with
 | nil=>intro ys q h; cases ys with | nil=>rfl | cons=>cases h
 | cons x xs ih =>
  intro ys q h;cases ys with
  | nil=>cases h
  | cons y ys =>
   unfold iv at h;split at h
   ·rename_i hb;simp [ih hb]
   ·cases h
theorem zb {w:World} {c:Cx} {s:St} {a:Act} {β fp} (S:SatI c s a w β fp) {hs:List (Nat × Nat)} {k:Con} {x:k.A} {L}:∀ b,c.G b->(gn w s.m β fp hs k x L).G b/\w.heap[b]? = c.w0.heap[b]? :=
 fun b hG=>⟨⟨Nat.lt_of_lt_of_le (S.old b hG).1 S.size,fun _ _ h _ blk hm hb=>S.free h blk hm b hb hG⟩,(S.old b hG).2⟩
theorem D0 {P:Program} {f:Nat} {k:Con} (H:Has P f k) {w:World} {c:Cx} (hkn:Kn k.need c) {s:St} {a:Act} {β fp} (S:SatI c s a w β fp) {d:Nat} {us:List AV} {vs:List Value} {conds:Bool} {K:AV->St->Prop} (hr:conds=true->RelL w s.m β c us vs)
  (h:gR k d us conds s K) :
  Calls P f vs.toArray w fun e w'=>∃ v av s',e = .returned v/\K av s' /\ ∃ β' fp',SatI c s' a w' β' fp'/\RelL w' s'.m β' c [av] [v]:=by
 obtain ⟨x,h⟩:=h;split at h
 ·exact h.elim
 ·rename_i A hA;obtain ⟨hbx,hAp,hown,hok,hvw,hlend,hlen,hcond,hpre,hpost⟩:=h;have hr:=hr hcond;have hl2:=hr.length;have hl3:=B7 hA;obtain ⟨L,E0⟩:=zG S hr hA hAp hbx hown hok hvw hlend (by rw [<- hl2]; exact hlen)
  have hcall:=H.calls x hpre _ (hkn.to (zb S)) vs _ _ rfl rfl (by rw [<- hl2,<- hl3]) (by rw [<- hl2]; exact hlen) E0
  refine hcall.mono ?_;rintro e w' ⟨y,hy,v,rfl,β',fp',a',E,hv⟩;obtain ⟨q1,q2,q3,q4⟩:=hpost y hy;exact ⟨v,_,_,rfl,q4,_,_,(uZ (d:=d) S E hbx hown hok hlend q1 q2 q3).sat S,yw S E hbx hown hok hlend q1 q2 q3 hv⟩
def oc (m:Nat->Option Blk):AV->AV->Option Pas2
 | .ptr i o,.ptr h o'=>some ⟨o=o',[(i,h)],[]⟩
 | x,y=>iU m x y
def kX (m:Nat->Option Blk):List AV->List AV->Option Pas2
 | [],[]=>some ⟨True,[],[]⟩
 | x :: xs,y :: ys=>match oc m x y,kX m xs ys with
  | some a,some b=>some ⟨a.p/\b.p,a.hs++b.hs,a.vw++b.vw⟩
  | _,_=>none
 | _,_=>none
def rj (m:Nat->Option Blk):AV->AV->Option Pas2
 | .agg xs,.agg ys=>kX m xs ys
 | .clo f xs,.clo g ys=>if f=g then kX m xs ys else none
 | x,y=>oc m x y
def j1 (m:Nat->Option Blk):List AV->List AV->Option Pas2
 | [],[]=>some ⟨True,[],[]⟩
 | x :: xs,y :: ys=>match rj m x y,j1 m xs ys with
  | some a,some b=>some ⟨a.p/\b.p,a.hs++b.hs,a.vw++b.vw⟩
  | _,_=>none
 | _,_=>none
def mr (m:Nat->Option Blk) (ρ:List (Nat × Nat)):List (Nat × Nat × List AV)->Option Pas2
 | []=>some ⟨True,[],[]⟩
 | (i,ty,vs) :: r=>match ai ρ i with
  | some h=>match m h,mr m ρ r with
   | some (.box ty' us),some b=>match kX m vs us with
    | some a=>some ⟨ty=ty'/\a.p/\b.p,a.hs++b.hs,a.vw++b.vw⟩
    | none=>none
   | _,_=>none
  | none=>none
section
variable {w:World} {c:Cx} {s:St} {a:Act} {β:Nat->Value} {fp:Nat->List (Nat × Nat)} (S:SatI c s a w β fp)
def Seen4 (w:World) (s:St) (β:Nat->Value) (fp:Nat->List (Nat × Nat)) (c:Cx) (vw:List Nat) (L:List (Nat × Nat)):Prop :=
 ∀ z ∈ L,z.1 < w.heap.size/\(c.F z \/ ∃ h ∈ vw,∃ e k R,s.m h=some (.own e k true R)/\z.1 ∈ Ob β h (fp h) (.own e k true R))
def Owns4 (w:World) (s:St) (β:Nat->Value) (c':Cx) (m':Nat->Option Blk) (β':Nat->Value) (hs:List (Nat × Nat)):Prop :=
 (∀ p ∈ hs,∀ e k R,s.m p.2=some (.own e k true R)->RelL w m' β' c' [.own p.1 k R] [β p.2]) /\ ∀ p ∈ hs,(m' p.1).isSome=true /\ β' p.1 = β p.2
def Tak4 (w:World) (s:St) (β:Nat->Value) (fp:Nat->List (Nat × Nat)) (c:Cx) (q:Pas2) (xs:List AV) (vs:List Value):Prop :=
 ∃ L:List (Nat × Nat),Seen4 w s β fp c q.vw L /\ ∀ c' m' β',(∀ z ∈ L,c'.F z/\Lim m' β' z)->Owns4 w s β c' m' β' q.hs->RelL w m' β' c' xs vs
theorem Seen4.nil {vw}:Seen4 w s β fp c vw []:=by intro z hz; cases hz
theorem Seen4.app {vw1 vw2 L1 L2} (h1:Seen4 w s β fp c vw1 L1) (h2:Seen4 w s β fp c vw2 L2):Seen4 w s β fp c (vw1++vw2) (L1++L2):=by
 intro z hz;rcases List.mem_append.1 hz with hz | hz
 ·obtain ⟨q1,q2⟩:=h1 z hz;exact ⟨q1,q2.imp id fun ⟨h,hh,q⟩=>⟨h,List.mem_append_left _ hh,q⟩⟩
 ·obtain ⟨q1,q2⟩:=h2 z hz;exact ⟨q1,q2.imp id fun ⟨h,hh,q⟩=>⟨h,List.mem_append_right _ hh,q⟩⟩
theorem Owns4.l {c' m' β' h1 h2} (h:Owns4 w s β c' m' β' (h1++h2)):Owns4 w s β c' m' β' h1:=⟨fun p hp=>h.1 p (List.mem_append_left _ hp),fun p hp=>h.2 p (List.mem_append_left _ hp)⟩
theorem Owns4.r {c' m' β' h1 h2} (h:Owns4 w s β c' m' β' (h1++h2)):Owns4 w s β c' m' β' h2:=⟨fun p hp=>h.1 p (List.mem_append_right _ hp),fun p hp=>h.2 p (List.mem_append_right _ hp)⟩
include S in
theorem B4 {x y v q} (hq:oc s.m x y=some q) (hp:q.p) (hy:RelL w s.m β c [y] [v]):Tak4 w s β fp c q [x] [v]:=by
 unfold oc at hq;split at hq
 ·rename_i i o h o';cases hq;have hp:o=o':=hp;subst hp;cases hy with
  | ptr h1 h2 _ =>
   refine ⟨[],.nil,fun c' m' β' _ hh=>?_⟩;obtain ⟨q1,q2⟩:=hh.2 (i,h) (by simp)
   exact .ptr q1 (q2.trans h2) .lnil
 ·obtain ⟨L,a1,a2⟩:=xe S hq hp hy;exact ⟨L,a1,fun c' m' β' hz hh=>a2 c' m' β' hz hh.1⟩
theorem Tak4.cons {p1 p2:Prop} {h1 h2 e1 e2} {x v xs vs} (A:Tak4 w s β fp c ⟨p1,h1,e1⟩ [x] [v]) (B:Tak4 w s β fp c ⟨p2,h2,e2⟩ xs vs) :
  Tak4 w s β fp c ⟨p1/\p2,h1++h2,e1++e2⟩ (x :: xs) (v :: vs):=by
 obtain ⟨L1,a1,a2⟩:=A;obtain ⟨L2,b1,b2⟩:=B;exact ⟨L1++L2,a1.app b1,fun c' m' β' hz hh=>(a2 c' m' β' (fun z hz'=>hz z (List.mem_append_left _ hz')) hh.l).append (b2 c' m' β' (fun z hz'=>hz z (List.mem_append_right _ hz')) hh.r)⟩
include S in
theorem xf:∀ {xs ys vs q},kX s.m xs ys=some q->q.p->RelL w s.m β c ys vs->Tak4 w s β fp c q xs vs:=by
 intro xs
 induction xs with
 | nil =>
  intro ys vs q hq hp hy;cases ys with
  | nil=>cases hq; cases hy; exact ⟨[],.nil,fun _ _ _ _ _=>.lnil⟩
  | cons y ys=>cases hq
 | cons x xs ih =>
  intro ys vs q hq hp hy;cases ys with
  | nil=>cases hq
  | cons y ys =>
   obtain ⟨v,vs',rfl,h1,h2⟩:=hy.uncons;unfold kX at hq;split at hq
   ·rename_i A B ha hb;cases hq;exact (B4 S ha hp.1 h1).cons (ih hb hp.2 h2)
   ·cases hq
include S in
theorem Mw {x y v q} (hq:rj s.m x y=some q) (hp:q.p) (hy:RelL w s.m β c [y] [v]):Tak4 w s β fp c q [x] [v]:=by
 unfold rj at hq;split at hq
 ·cases hy with
  | agg h1 h2 _ =>
   obtain ⟨L,a1,a2⟩:=xf S hq hp h1;exact ⟨L,a1,fun c' m' β' hz hh=>.agg (a2 c' m' β' hz hh) h2 .lnil⟩
 ·split at hq
  ·rename_i hfg;subst hfg;cases hy with
   | clo h1 _ =>
    obtain ⟨L,a1,a2⟩:=xf S hq hp h1;exact ⟨L,a1,fun c' m' β' hz hh=>.clo (a2 c' m' β' hz hh) .lnil⟩
  ·cases hq
 ·exact B4 S hq hp hy
include S in
theorem MA:∀ {xs ys vs q},j1 s.m xs ys=some q->q.p->RelL w s.m β c ys vs->Tak4 w s β fp c q xs vs:=by
 intro xs
 induction xs with
 | nil =>
  intro ys vs q hq hp hy;cases ys with
  | nil=>cases hq; cases hy; exact ⟨[],.nil,fun _ _ _ _ _=>.lnil⟩
  | cons y ys=>cases hq
 | cons x xs ih =>
  intro ys vs q hq hp hy;cases ys with
  | nil=>cases hq
  | cons y ys =>
   obtain ⟨v,vs',rfl,h1,h2⟩:=hy.uncons;unfold j1 at hq;split at hq
   ·rename_i A B ha hb;cases hq;exact (Mw S ha hp.1 h1).cons (ih hb hp.2 h2)
   ·cases hq
def DX (w:World) (s:St) (β:Nat->Value) (fp:Nat->List (Nat × Nat)) (ρ:List (Nat × Nat)) (L hs:List (Nat × Nat)) (b:Nat × Nat × List AV):Prop :=
 ∃ h us blk cvs,ai ρ b.1=some h/\s.m h=some (.box b.2.1 us)/\fp h=[] /\ β h = .pointer (some ⟨blk,0,none⟩)/\w.heap[blk]? = some (.cells (List.toArray cvs) b.2.1 (0,0))/\(∀ u ∈ cvs,u.oneCell'=true) /\
  ∀ c' m' β',(∀ z ∈ L,c'.F z/\Lim m' β' z)->Owns4 w s β c' m' β' hs->RelL w m' β' c' b.2.2 cvs
include S in
theorem Mu {ρ}:∀ {bs q},mr s.m ρ bs=some q->q.p -> ∃ L:List (Nat × Nat),Seen4 w s β fp c q.vw L /\ ∀ b ∈ bs,DX w s β fp ρ L q.hs b:=by
 intro bs
 induction bs with
 | nil=>intro q hq hp; cases hq; exact ⟨[],.nil,fun b hb=>by cases hb⟩
 | cons b bs ih =>
  intro q hq hp;obtain ⟨i,ty,vs⟩:=b;unfold mr at hq;split at hq
  ·rename_i h hh;split at hq
   ·rename_i ty' us b hm hb;split at hq
    ·rename_i a ha;cases hq;obtain ⟨rfl,p1,p2⟩:=hp;obtain ⟨L2,b1,b2⟩:=ih hb p2;obtain ⟨q0,blk,cvs,q1,q2,q3,q4⟩:=S.mem h _ hm;obtain ⟨L1,a1,a2⟩:=xf S ha p1 q3;refine ⟨L1++L2,a1.app b1,fun x hx=>?_⟩;rcases List.mem_cons.1 hx with rfl | hx
     ·exact ⟨h,us,blk,cvs,hh,hm,q0,q1,q2,q4,fun c' m' β' hz hp=>a2 c' m' β' (fun z hz'=>hz z (List.mem_append_left _ hz')) hp.l⟩
     ·obtain ⟨h2,us2,blk2,cvs2,r1,r2,r0,r3,r4,r5,r6⟩:=b2 x hx;exact ⟨h2,us2,blk2,cvs2,r1,r2,r0,r3,r4,r5,fun c' m' β' hz hp=>r6 c' m' β' (fun z hz'=>hz z (List.mem_append_right _ hz')) hp.r⟩
    ·cases hq
   ·cases hq
  ·cases hq
end
abbrev dx (k:Con) (x:k.A):List Nat:=(k.boxes x).map (·.1)++(k.owns x).map (·.1)
abbrev dV (w:World) (m:Nat->Option Blk) (β:Nat->Value) (fp:Nat->List (Nat × Nat)) (hs:List (Nat × Nat)) (k:Con) (x:k.A) (L:List (Nat × Nat)):Cx :=
 ⟨L,dJ w m β fp hs (dx k x),w,k.n,k.pins2 x (aI β hs)⟩
section
variable {w:World} {c:Cx} {s:St} {a:Act} {β:Nat->Value} {fp:Nat->List (Nat × Nat)} (S:SatI c s a w β fp)
include S
theorem G1 {k:Con} {x:k.A} {us:List AV} {vs:List Value} {A B:Pas2} {H:List (Nat × Nat)} (hH:H=A.hs++B.hs) (hr:RelL w s.m β c us vs) (hA:j1 s.m (k.args x) us=some A) (hAp:A.p) (hB:mr s.m A.hs (k.boxes x)=some B) (hBp:B.p)
  (hown:fO s.m H (k.owns x)) (hok:jV H (dx k x)) (hvw:∀ h ∈ A.vw++B.vw,∀ p ∈ H,p.2 ≠ h) (hlend:∀ i ∈ k.lends,i ∈ (k.owns x).map (·.1)) (hn:vs.length<=k.n) :
  ∃ L:List (Nat × Nat),SatI (dV w s.m β fp H k x L) (k.start2 x) ⟨vs.toArray++Array.replicate (k.n - vs.length) undef,[]⟩ w (aI β H) (cT fp H):=by
 obtain ⟨L1,hL1,a2⟩:=MA S hA hAp hr;obtain ⟨L2,hL2,b2⟩:=Mu S hB hBp;have hL:=hL1.app hL2;refine ⟨L1++L2,?_⟩;have hin:∀ i h,ai A.hs i=some h->ai H i=some h:=fun i h hi=>(hok.1 (i,h) (by rw [hH]; exact List.mem_append_left _ (c8 hi))).1
 have hst:∀ i blk,(k.start2 x).m i=some blk->i ∈ dx k x/\((∃ e kk R h,blk = .own e kk true R/\ai H i=some h/\s.m h=some (.own e kk true R)) \/
   (∃ ty av us h b cvs,(i,ty,av) ∈ k.boxes x/\blk = .box ty av/\ai H i=some h/\s.m h=some (.box ty us)/\fp h=[] /\ β h = .pointer (some ⟨b,0,none⟩)/\w.heap[b]? = some (.cells (List.toArray cvs) ty (0,0)))):=by
  intro i blk hi;have:=c8 hi;simp only [List.mem_append,List.mem_map] at this;rcases this with ⟨⟨i',ty,av⟩,h1,h2⟩ | ⟨⟨i',e,kk,R⟩,h1,h2⟩
  ·cases h2;obtain ⟨h,us,blk,cvs,r1,r2,r0,r3,r4,_⟩:=b2 _ h1;exact ⟨List.mem_append_left _ (List.mem_map.2 ⟨_,h1,rfl⟩),.inr ⟨ty,av,us,h,blk,cvs,h1,rfl,hin _ _ r1,r2,r0,r3,r4⟩⟩
  ·cases h2;obtain ⟨h,q1,q2⟩:=nY hown h1;exact ⟨List.mem_append_right _ (List.mem_map.2 ⟨_,h1,rfl⟩),.inl ⟨e,kk,R,h,rfl,q1,q2⟩⟩
 have hOb:∀ i blk,(k.start2 x).m i=some blk->i ∈ dx k x /\ ∃ h blk0,ai H i=some h/\s.m h=some blk0/\Ob (aI β H) i (cT fp H i) blk=Ob β h (fp h) blk0:=by
  intro i blk hi;obtain ⟨hk,⟨e,kk,R,h,rfl,q1,q2⟩ | ⟨ty,av,us,h,b,cvs,_,rfl,q1,q2,q3,q4,q5⟩⟩:=hst i blk hi
  ·refine ⟨hk,h,_,q1,q2,?_⟩;have e1:aI β H i = β h:=by simp [aI,q1]
   have e2:cT fp H i=fp h:=by simp [cT,q1]
   rw [e2]; unfold Ob; rw [e1]
  ·refine ⟨hk,h,_,q1,q2,?_⟩;have e1:aI β H i = β h:=by simp [aI,q1]
   have e2:cT fp H i=fp h:=by simp [cT,q1]
   simp [Ob,e1,e2,q4]
 have hinj:∀ i i' h,i ∈ dx k x->i' ∈ dx k x->ai H i=some h->ai H i'=some h->i=i' :=
  fun i i' h m1 m2 h1 h2=>ma hok.2.2 m1 m2 (h1.trans h2.symm)
 have hfree:∀ i blk,(k.start2 x).m i=some blk -> ∀ y ∈ Ob (aI β H) i (cT fp H i) blk,¬ dJ w s.m β fp H (dx k x) y:=by
  intro i blk hi y hy hG;obtain ⟨hk,h,b0,q1,q2,q3⟩:=hOb i blk hi;rw [q3] at hy;exact hG.2 i hk h q1 _ q2 hy
 have hdisj:∀ i i' blk blk',(k.start2 x).m i=some blk->(k.start2 x).m i'=some blk'->i ≠ i' -> ∀ y ∈ Ob (aI β H) i (cT fp H i) blk,y ∉ Ob (aI β H) i' (cT fp H i') blk':=by
  intro i i' blk blk' hi hi' hne y hy hy';obtain ⟨hk,h,b0,q1,q2,q3⟩:=hOb i blk hi;obtain ⟨hk',h',b0',q1',q2',q3'⟩:=hOb i' blk' hi';rw [q3] at hy;rw [q3'] at hy';refine S.disj h h' _ _ q2 q2' (fun e=>?_) y hy hy';subst e;exact hne (hinj i i' h hk hk' q1 q1')
 have hnd:∀ i blk,(k.start2 x).m i=some blk->(Ob (aI β H) i (cT fp H i) blk).Nodup:=by
  intro i blk hi;obtain ⟨hk,h,b0,q1,q2,q3⟩:=hOb i blk hi;rw [q3]; exact S.nodup h _ q2
 have hmem:∀ i e kk R h,ai H i=some h->s.m h=some (.own e kk true R)->BlkOk w (k.start2 x).m (aI β H) (dV w s.m β fp H k x (L1++L2)) i (cT fp H i) (.own e kk true R):=by
  intro i e kk R h q3 q4;have e1:aI β H i = β h:=by simp [aI,q3]
  have e2:cT fp H i=fp h:=by simp [cT,q3]
  obtain ⟨p1,p2,p3⟩:=S.mem h _ q4;refine ⟨p1,p2,?_⟩;rw [e1,e2];rcases p3 with p3 | ⟨b,cap,cs,f0,r1,r2,r3,r4,r5,r6,r7,r8⟩
  ·exact .inl p3
  ·exact .inr ⟨b,cap,cs,f0,r1,r2,r3,r4,r5,r6,r7,by simp⟩
 have hLG:∀ z ∈ L1++L2,dJ w s.m β fp H (dx k x) z.1:=by
  intro z hz;obtain ⟨q1,q2⟩:=hL z hz;refine ⟨q1,fun i hi h hh blk hm hzo=>?_⟩;rcases q2 with q2 | ⟨g,hg,e,kk,R,hgm,hgo⟩
  ·exact S.free h blk hm z.1 hzo (S.fg z q2)
  ·exact S.disj g h _ _ hgm hm (Ne.symm (hvw g hg (i,h) (c8 hh))) z.1 hgo hzo
 have hlim:∀ z:Nat × Nat,dJ w s.m β fp H (dx k x) z.1->Lim (k.start2 x).m (aI β H) z:=by
  intro z hz;refine ⟨?_,?_⟩
  ·rintro ⟨i,ty,av,hi,hb⟩;exact hfree i _ hi z.1 (by simp [Ob,hb]) hz
  ·intro i e kk d R n cc hi hb;exact absurd hz (hfree i _ hi z.1 (by simp [Ob,hb]))
 have hkey:∀ i ∈ dx k x,∃ blk,(k.start2 x).m i=some blk:=by
  intro i hi;exact ig (l:=((k.boxes x).map fun b=>(b.1,Blk.box b.2.1 b.2.2))++((k.owns x).map fun b=>(b.1,Blk.own b.2.1 b.2.2.1 true b.2.2.2))) (i:=i) (by simpa [dx,List.map_map] using hi)
 have hownrel:∀ p ∈ H,∀ e kk R,s.m p.2=some (.own e kk true R)->RelL w (k.start2 x).m (aI β H) (dV w s.m β fp H k x (L1++L2)) [.own p.1 kk R] [β p.2]:=by
  intro p hp e kk R hm;obtain ⟨q1,q2⟩:=hok.1 p hp;obtain ⟨blk,hblk⟩:=hkey _ q2;obtain ⟨_,⟨e',kk',R',h,rfl,r1,r2⟩ | ⟨ty,av,us,h,b,cvs,_,rfl,r1,r2,_⟩⟩:=hst _ _ hblk
  ·rw [q1] at r1;cases r1;rw [hm] at r2;cases r2;have:=iu (fps:=cT fp H) (c:=dV w s.m β fp H k x (L1++L2)) hblk (hmem p.1 e kk R p.2 q1 hm) (hnd p.1 _ hblk) (fun h' blk' hm' hne=>hdisj p.1 h' _ blk' hblk hm' (Ne.symm hne)) (hfree p.1 _ hblk);have e1:aI β H p.1 = β p.2:=by simp [aI,q1]
   rwa [e1] at this
  ·rw [q1] at r1;cases r1;rw [hm] at r2;cases r2
 have hsome:∀ p ∈ H,((k.start2 x).m p.1).isSome=true/\aI β H p.1 = β p.2:=by
  intro p hp;obtain ⟨q1,q2⟩:=hok.1 p hp;obtain ⟨blk,hblk⟩:=hkey _ q2;exact ⟨by rw [hblk]; rfl,by simp [aI,q1]⟩
 have hOw:Owns4 w s β (dV w s.m β fp H k x (L1++L2)) (k.start2 x).m (aI β H) H:=⟨hownrel,hsome⟩;have hzz:∀ z ∈ L1++L2,(dV w s.m β fp H k x (L1++L2)).F z/\Lim (k.start2 x).m (aI β H) z:=fun z hz=>⟨⟨z,hz,rfl,Nat.le_refl _⟩,hlim z (hLG z hz)⟩;have hOwA:Owns4 w s β (dV w s.m β fp H k x (L1++L2)) (k.start2 x).m (aI β H) A.hs:=⟨fun p hp=>hownrel p (by rw [hH]; exact List.mem_append_left _ hp),fun p hp=>hsome p (by rw [hH]; exact List.mem_append_left _ hp)⟩
 have hOwB:Owns4 w s β (dV w s.m β fp H k x (L1++L2)) (k.start2 x).m (aI β H) B.hs:=⟨fun p hp=>hownrel p (by rw [hH]; exact List.mem_append_right _ hp),fun p hp=>hsome p (by rw [hH]; exact List.mem_append_right _ hp)⟩
 have hargs:=a2 (dV w s.m β fp H k x (L1++L2)) (k.start2 x).m (aI β H) (fun z hz=>hzz z (List.mem_append_left _ hz)) hOwA;refine ⟨?_,?_,hnd,hdisj,hfree,?_,fun b hb=>⟨hb.1,rfl⟩,rfl,rfl,rfl,Nat.le_refl _,rfl,?_,?_⟩
 ·intro t g av ht;simp only [Con.start2,Option.map_eq_some_iff] at ht;obtain ⟨v,hv,he⟩:=ht;cases he;obtain ⟨u,hu,hru⟩:=hargs.at1 hv;have hlt:t < vs.length:=(List.getElem?_eq_some_iff.1 hu).1;have hsz:t < (vs.toArray++Array.replicate (k.n - vs.length) undef).size:=by simp; omega
  have hget:(vs.toArray++Array.replicate (k.n - vs.length) undef).getD t undef=u:=by
   rw [Array.getD_eq_getD_getElem?,Array.getElem?_append_left (by simpa using hlt)]
   simp [hu]
  exact ⟨hsz,fun _=>by rw [hget]; exact hru,by simp⟩
 ·intro i blk hi;obtain ⟨_,⟨e,kk,R,h,rfl,q1,q2⟩ | ⟨ty,av,us,h,b,cvs,hbx,rfl,q1,q2,q3,q4,q5⟩⟩:=hst i blk hi
  ·exact hmem i e kk R h q1 q2
  ·obtain ⟨h',us',b',cvs',r1,r2,r0,r3,r4,r5,r6⟩:=b2 _ hbx;have r1':=hin _ _ r1;exact ⟨by simp [cT,r1',r0],b',cvs',by simp [aI,r1',r3],r4,r6 _ _ _ (fun z hz=>hzz z (List.mem_append_right _ hz)) hOwB,r5⟩
 ·rintro y ⟨z,hz,e1,e2⟩;rw [e1];exact hLG z hz
 ·simp; omega
 ·intro p hp;replace hp:p ∈ k.pins2 x (aI β H):=hp;unfold Con.pins2 at hp;rcases List.mem_append.1 hp with hp | hp
  ·obtain ⟨b,hb,rfl⟩:=List.mem_map.1 hp;obtain ⟨blk,hblk⟩:=hkey b.1 (List.mem_append_left _ (List.mem_map.2 ⟨b,hb,rfl⟩));exact ⟨rfl,by rw [hblk]; rfl⟩
  ·obtain ⟨i,hi,rfl⟩:=List.mem_map.1 hp;obtain ⟨blk,hblk⟩:=hkey i (List.mem_append_right _ (hlend i hi));exact ⟨rfl,by rw [hblk]; rfl⟩
end
def lZ (hs:List (Nat × Nat)) (d:Nat) (m:Nat->Option Blk) (bk lends:List Nat):List (Nat × Blk)->Prop
 | []=>True
 | (j,.own e k true _) :: r=>(match ai hs j with
  | some h=>j ∈ lends/\(match m h with | some (.own e' k' true _)=>e'=e/\k'=k | _=>False)
  | none=>m (d+j)=none)/\lZ hs d m bk lends r
 | (j,.box _ _) :: r=>(j ∈ bk/\(ai hs j).isSome=true)/\lZ hs d m bk lends r
 | _=>False
theorem nI {hs d m bk lends}:∀ {l:List (Nat × Blk)},lZ hs d m bk lends l -> ∀ {j b},(j,b) ∈ l->(∃ e k R,b = .own e k true R /\
  ((∃ h,ai hs j=some h/\j ∈ lends /\ ∃ R0,m h=some (.own e k true R0)) \/ (ai hs j=none/\m (d+j)=none))) \/ (∃ ty vs h,b = .box ty vs/\j ∈ bk/\ai hs j=some h):=by
 intro l
 induction l with
 | nil=>intro _ j b h; cases h
 | cons p l ih =>
  intro h j b hm;obtain ⟨i,x⟩:=p;cases x with
  | dead=>exact h.elim
  | box ty vs =>
   obtain ⟨⟨h1,h2⟩,h3⟩:=h;rcases List.mem_cons.1 hm with hm | hm
   ·cases hm;obtain ⟨g,hg⟩:=Option.isSome_iff_exists.1 h2;exact .inr ⟨ty,vs,g,rfl,h1,hg⟩
   ·exact ih h3 hm
  | own e k dp R=>cases dp with
   | false=>exact h.elim
   | true =>
    obtain ⟨h1,h2⟩:=h;rcases List.mem_cons.1 hm with hm | hm
    ·cases hm;refine .inl ⟨e,k,R,rfl,?_⟩;split at h1
     ·rename_i g hg;obtain ⟨q1,q2⟩:=h1;refine .inl ⟨g,hg,q1,?_⟩;split at q2
      ·rename_i e' k' R' hmg;obtain ⟨rfl,rfl⟩:=q2;exact ⟨R',hmg⟩
      ·exact q2.elim
     ·rename_i hg; exact .inr ⟨hg,h1⟩
    ·exact ih h2 hm
def ld (R:Nat->Nat):AV->AV
 | .int k n=>.int k n
 | .bool b=>.bool b
 | .str s=>.str s
 | .raw v=>.raw v
 | .nil=>.nil
 | .own j k r=>.own (R j) k r
 | _=>.junk
def d9 (R:Nat->Nat):Blk->Blk
 | .box ty vs=>.box ty (vs.map (ld R))
 | b=>b
abbrev m4 (hs:List (Nat × Nat)) (d:Nat) (m:Nat->Option Blk) (fin:List (Nat × Blk)):Nat->Option Blk:=over (bz (hs.map (·.2)) m) (rho hs d) (fun _ b=>some (d9 (rho hs d) b)) fin
section
variable {w:World} {c:Cx} {s:St} {a:Act} {β:Nat->Value} {fp:Nat->List (Nat × Nat)} (S:SatI c s a w β fp)
 {k:Con} {x:k.A} {y:k.X} {hs:List (Nat × Nat)} {d:Nat} {L:List (Nat × Nat)} {a':Act} {w':World} {β':Nat->Value} {fp':Nat->List (Nat × Nat)}
 (E:SatI (dV w s.m β fp hs k x L) (k.end_ x y) a' w' β' fp')
 (hok:jV hs (dx k x)) (hsm:True)
 (hk:((k.fin x y).map (·.1)).Nodup) (hr:((k.fin x y).map fun p=>rho hs d p.1).Nodup) (hf:lZ hs d s.m ((k.boxes x).map (·.1)) k.lends (k.fin x y))
include S E hok hsm hk hr hf
theorem jN {j b} (h:(j,b) ∈ k.fin x y):(k.end_ x y).m j=some b:=by
 obtain ⟨v,hv⟩:=ig (l:=k.fin x y) (i:=j) (List.mem_map.2 ⟨_,h,rfl⟩);have hm:=c8 hv;have:((j,v):Nat × Blk)=(j,b):=ma hk hm h rfl;cases this;exact hv
theorem Bb {i h} (hi:i ∈ k.lends \/ i ∈ (k.boxes x).map (·.1)) (hh:ai hs i=some h):β' i = β h:=by
 have:=(E.pin (i,aI β hs i) (by
  show _ ∈ k.pins2 x (aI β hs)
  unfold Con.pins2;rcases hi with hi | hi
  ·exact List.mem_append_right _ (List.mem_map.2 ⟨i,hi,rfl⟩)
  ·obtain ⟨b,hb,rfl⟩:=List.mem_map.1 hi;exact List.mem_append_left _ (List.mem_map.2 ⟨b,hb,rfl⟩))).1
 simpa [aI,hh] using this
theorem qI {h blk} (hst:¬ (h ∉ hs.map (·.2) /\ ∀ p ∈ k.fin x y,rho hs d p.1 ≠ h)) (hm:m4 hs d s.m (k.fin x y) h=some blk) :
  (∃ j b,(j,b) ∈ k.fin x y/\blk=d9 (rho hs d) b/\rho hs d j=h /\ β2 hs d β β' (k.fin x y) h = β' j/\fp2 hs d fp fp' (k.fin x y) h=fp' j) \/
  (h ∈ hs.map (·.2)/\blk = .dead /\ β2 hs d β β' (k.fin x y) h = β h/\fp2 hs d fp fp' (k.fin x y) h=[]):=by
 by_cases hex:∃ p ∈ k.fin x y,rho hs d p.1=h
 ·obtain ⟨⟨j,b⟩,hp,rfl⟩:=hex;have e1:m4 hs d s.m (k.fin x y) (rho hs d j)=some (d9 (rho hs d) b):=df (g:=fun _ b=>some (d9 (rho hs d) b)) hr hp;rw [hm] at e1;cases e1;exact .inl ⟨j,b,hp,rfl,rfl,df (g:=fun j _=>β' j) hr hp,df (g:=fun j _=>fp' j) hr hp⟩
 ·have hex':∀ p ∈ k.fin x y,rho hs d p.1 ≠ h:=fun p hp he=>hex ⟨p,hp,he⟩;have hin:h ∈ hs.map (·.2):=Classical.byContradiction fun hc=>hst ⟨hc,hex'⟩;have e1:m4 hs d s.m (k.fin x y) h=some .dead:=by
   rw [show m4 hs d s.m (k.fin x y) h=bz (hs.map (·.2)) s.m h from cC hex']
   exact eE hin
  rw [hm] at e1;cases e1;refine .inr ⟨hin,rfl,cC hex',?_⟩;rw [show fp2 hs d fp fp' (k.fin x y) h=(if h ∈ hs.map (·.2) then [] else fp h) from cC hex',if_pos hin]
theorem ob4 {h blk} (hst:¬ (h ∉ hs.map (·.2) /\ ∀ p ∈ k.fin x y,rho hs d p.1 ≠ h)) (hm:m4 hs d s.m (k.fin x y) h=some blk) :
  (∃ j b,(j,b) ∈ k.fin x y/\rho hs d j=h/\Ob (β2 hs d β β' (k.fin x y)) h (fp2 hs d fp fp' (k.fin x y) h) blk=Ob β' j (fp' j) b) \/ Ob (β2 hs d β β' (k.fin x y)) h (fp2 hs d fp fp' (k.fin x y) h) blk=[]:=by
 rcases qI S E hok hsm hk hr hf hst hm with ⟨j,b,q1,rfl,q2,q3,q4⟩ | ⟨_,rfl,_,q4⟩
 ·refine .inl ⟨j,b,q1,q2,?_⟩;rw [q4]; unfold Ob; rw [q3]
  cases b <;> simp only [d9] <;> (congr 1; try (cases β' j <;> try rfl) <;> rename_i o <;> cases o <;> rfl)
 ·refine .inr ?_;rw [q4]; simp [Ob]
theorem yy {m1:Nat->Option Blk} {β1:Nat->Value} (hm1:∀ j b,(j,b) ∈ k.fin x y->m1 (rho hs d j)=some (d9 (rho hs d) b)) (hown:∀ j e kk R,(j,Blk.own e kk true R) ∈ k.fin x y->RelL w' (wm m1) β1 c [.own (rho hs d j) kk R] [β' j])
  {v u} (h:RelL w' (k.end_ x y).m β' (dV w s.m β fp hs k x L) [v] [u]) :
  RelL w' (wm m1) β1 c [(ld (rho hs d) v).wipe1 m1] [u]:=by
 cases h with
 | int _=>exact .int .lnil
 | bool _=>exact .bool .lnil
 | str h1 _=>exact .str h1 .lnil
 | raw h1 _=>exact .raw h1 .lnil
 | nil _=>exact .nil .lnil
 | @own j kk rows _ _ _ h1 h2 h3 _ =>
  obtain ⟨b,hb⟩:=Option.isSome_iff_exists.1 h1;have hmem:(j,b) ∈ k.fin x y:=c8 hb;rcases nI hf hmem with ⟨e,kk',R,rfl,_⟩ | ⟨ty,vs,g,rfl,_⟩
  ·obtain ⟨rfl,rfl⟩:=h3 _ _ _ _ hb;have r1:=hm1 _ _ hmem;simp only [d9] at r1;simp only [ld,AV.wipe1,r1];exact hown _ _ _ _ hmem
  ·have r1:=hm1 _ _ hmem;simp only [d9] at r1;simp only [ld,AV.wipe1,r1];exact .junk .lnil
 | _=>exact .junk .lnil
theorem E9 {m1:Nat->Option Blk} {β1:Nat->Value} (hm1:∀ j b,(j,b) ∈ k.fin x y->m1 (rho hs d j)=some (d9 (rho hs d) b)) (hown:∀ j e kk R,(j,Blk.own e kk true R) ∈ k.fin x y->RelL w' (wm m1) β1 c [.own (rho hs d j) kk R] [β' j]) :
  ∀ {vs us},RelL w' (k.end_ x y).m β' (dV w s.m β fp hs k x L) vs us->RelL w' (wm m1) β1 c ((vs.map (ld (rho hs d))).map (AV.wipe1 m1)) us:=by
 intro vs
 induction vs with
 | nil=>intro us h; cases h; exact .lnil
 | cons v vs ih =>
  intro us h;obtain ⟨u,us',rfl,h1,h2⟩:=h.uncons;exact (yy S E hok hsm hk hr hf hm1 hown h1).append (ih h2)
theorem q9:∀ j b,(j,b) ∈ k.fin x y->m4 hs d s.m (k.fin x y) (rho hs d j)=some (d9 (rho hs d) b) :=
 fun j b hp=>df (g:=fun _ b=>some (d9 (rho hs d) b)) hr hp
theorem BV {j e kk R} (hmem:(j,Blk.own e kk true R) ∈ k.fin x y):RelL w' (wm (m4 hs d s.m (k.fin x y))) (β2 hs d β β' (k.fin x y)) c [.own (rho hs d j) kk R] [β' j]:=by
 have keep:∀ b,b < w.heap.size->(∀ g blk,g ∈ hs.map (·.2)->s.m g=some blk->b ∉ Ob β g (fp g) blk)->dJ w s.m β fp hs (dx k x) b :=
  fun b hb hn=>⟨hb,fun i hi g hg blk hm=>hn g blk (List.mem_map.2 ⟨_,c8 hg,rfl⟩) hm⟩
 have KG:∀ b,c.G b->dJ w s.m β fp hs (dx k x) b:=fun b hG=>keep b (Nat.lt_of_lt_of_le (S.old b hG).1 S.size) fun g blk _ hm hb=>S.free g blk hm b hb hG;have KS:∀ h blk,h ∉ hs.map (·.2)->s.m h=some blk -> ∀ b ∈ Ob β h (fp h) blk,dJ w s.m β fp hs (dx k x) b :=
  fun h blk hn hm b hb=>keep b ((S.mem h blk hm).lt b hb) fun g blk' hg hm' hb'=>S.disj h g blk blk' hm hm' (by intro e; subst e; exact hn hg) b hb hb'
 have e1:=q9 S E hok hsm hk hr hf _ _ hmem;simp only [d9] at e1;have e2:β2 hs d β β' (k.fin x y) (rho hs d j) = β' j:=df (g:=fun j _=>β' j) hr hmem;have e3:fp2 hs d fp fp' (k.fin x y) (rho hs d j)=fp' j:=df (g:=fun j _=>fp' j) hr hmem;have hw:wm (m4 hs d s.m (k.fin x y)) (rho hs d j)=some (.own e kk true R):=by simp only [wm,e1,Option.map_some,Blk.wipe]
 have hm:=jN S E hok hsm hk hr hf hmem;have hst:¬ (rho hs d j ∉ hs.map (·.2) /\ ∀ p ∈ k.fin x y,rho hs d p.1 ≠ rho hs d j):=fun h=>h.2 _ hmem rfl;have FR:=E.free j _ hm;have hB:BlkOk w' (wm (m4 hs d s.m (k.fin x y))) (β2 hs d β β' (k.fin x y)) c (rho hs d j) (fp' j) (.own e kk true R):=by
  obtain ⟨p1,p2,p3⟩:=E.mem j _ hm;refine ⟨p1,p2,?_⟩;rw [e2];rcases p3 with p3 | ⟨b,cap,cs,f0,r1,r2,r3,r4,r5,r6,r7,r8⟩
  ·exact .inl p3
  ·exact .inr ⟨b,cap,cs,f0,r1,r2,r3,r4,r5,r6,r7,by simp⟩
 have hObj:Ob (β2 hs d β β' (k.fin x y)) (rho hs d j) (fp' j) (.own e kk true R)=Ob β' j (fp' j) (.own e kk true R):=by unfold Ob; rw [e2]
 have:=iu (fps:=fp2 hs d fp fp' (k.fin x y)) hw hB (by rw [hObj]; exact E.nodup j _ hm) (fun h' blk' hm' hne z hz hz'=>?_) (fun z hz hG=>by rw [hObj] at hz; exact FR z hz (KG z hG))
 ·rwa [e2] at this
 ·rw [hObj] at hz;by_cases hst':h' ∉ hs.map (·.2) /\ ∀ p ∈ k.fin x y,rho hs d p.1 ≠ h'
  ·have q1:m4 hs d s.m (k.fin x y) h'=s.m h':=by
    rw [show m4 hs d s.m (k.fin x y) h'=bz (hs.map (·.2)) s.m h' from cC hst'.2]
    exact dD hst'.1
   have q2:β2 hs d β β' (k.fin x y) h' = β h':=cC hst'.2;have q3:fp2 hs d fp fp' (k.fin x y) h'=fp h':=by rw [show fp2 hs d fp fp' (k.fin x y) h'=(if h' ∈ hs.map (·.2) then [] else fp h') from cC hst'.2,if_neg hst'.1]
   simp only [wm,q1] at hm';cases hb:s.m h' with
   | none=>simp [hb] at hm'
   | some b0 =>
    simp only [hb,Option.map_some,Option.some.injEq] at hm';have hsub:z ∈ Ob β h' (fp h') b0 \/ False:=by
     rw [q3] at hz';cases b0 with
     | own e' k' d' R' =>
      cases d' with
      | true=>subst hm'; left; unfold Ob at hz' ⊢; rw [q2] at hz'; exact hz'
      | false =>
       subst hm'
       left
       simp only [Blk.wipe,Ob,List.nil_append,List.mem_append] at hz' ⊢;exact .inr hz'
     | box ty vs=>subst hm'; left; simp only [Blk.wipe] at hz'; rw [mN (b':=.box ty vs) q2 (.inr ⟨_,_,_,_,rfl,rfl⟩)] at hz'; exact hz'
     | dead=>subst hm'; left; simp only [Blk.wipe,Ob,List.nil_append] at hz' ⊢; exact hz'
    rcases hsub with hsub | hsub
    ·exact FR z hz (KS h' b0 hst'.1 hb z hsub)
    ·exact hsub
  ·cases hb:m4 hs d s.m (k.fin x y) h' with
   | none=>simp [wm,hb] at hm'
   | some b0 =>
    have hO:Ob (β2 hs d β β' (k.fin x y)) h' (fp2 hs d fp fp' (k.fin x y) h') blk'=Ob (β2 hs d β β' (k.fin x y)) h' (fp2 hs d fp fp' (k.fin x y) h') b0:=by
     simp only [wm,hb,Option.map_some,Option.some.injEq] at hm';rcases qI S E hok hsm hk hr hf hst' hb with ⟨j',b',q1,rfl,q2,q3,q4⟩ | ⟨_,rfl,_,q4⟩
     ·rcases nI hf q1 with ⟨_,_,_,rfl,_⟩ | ⟨_,_,_,rfl,_⟩
      ·simp only [d9,Blk.wipe] at hm' ⊢; rw [<- hm']
      ·simp only [d9,Blk.wipe] at hm' ⊢; rw [<- hm']; exact mN rfl (.inr ⟨_,_,_,_,rfl,rfl⟩)
     ·simp only [Blk.wipe] at hm'; rw [<- hm']
    rw [hO] at hz';rcases ob4 S E hok hsm hk hr hf hst' hb with ⟨j',b',q1,q2,q3⟩ | q3
    ·rw [q3] at hz';exact E.disj j j' _ _ hm (jN S E hok hsm hk hr hf q1) (by intro e; subst e; exact hne q2.symm) z hz hz'
    ·rw [q3] at hz'; cases hz'
theorem Gk:Chg c s w β fp w' (m4 hs d s.m (k.fin x y)) (β2 hs d β β' (k.fin x y)) (fp2 hs d fp fp' (k.fin x y)) (fun h=>h ∉ hs.map (·.2) /\ ∀ p ∈ k.fin x y,rho hs d p.1 ≠ h):=by
 have keep:∀ b,b < w.heap.size->(∀ g blk,g ∈ hs.map (·.2)->s.m g=some blk->b ∉ Ob β g (fp g) blk)->dJ w s.m β fp hs (dx k x) b :=
  fun b hb hn=>⟨hb,fun i hi g hg blk hm=>hn g blk (List.mem_map.2 ⟨_,c8 hg,rfl⟩) hm⟩
 have KG:∀ b,c.G b->dJ w s.m β fp hs (dx k x) b:=fun b hG=>keep b (Nat.lt_of_lt_of_le (S.old b hG).1 S.size) fun g blk _ hm hb=>S.free g blk hm b hb hG;have KS:∀ h blk,h ∉ hs.map (·.2)->s.m h=some blk -> ∀ b ∈ Ob β h (fp h) blk,dJ w s.m β fp hs (dx k x) b :=
  fun h blk hn hm b hb=>keep b ((S.mem h blk hm).lt b hb) fun g blk' hg hm' hb'=>S.disj h g blk blk' hm hm' (by intro e; subst e; exact hn hg) b hb hb'
 have FR:∀ j b,(j,b) ∈ k.fin x y -> ∀ z ∈ Ob β' j (fp' j) b,¬ dJ w s.m β fp hs (dx k x) z :=
  fun j b hj=>E.free j b (jN S E hok hsm hk hr hf hj)
 have O:=fun h blk hst hm=>ob4 (d:=d) S E hok hsm hk hr hf (h:=h) (blk:=blk) hst hm;refine ⟨fun b hG=>(E.old b (KG b hG)).2,E.size,E.os,E.tape,E.output,fun h hst=>⟨?_,cC hst.2,?_⟩,fun h blk hst hm b hb=>(E.old b (KS h blk hst.1 hm b hb)).2,?_,?_,?_,?_,?_,?_,?_⟩
 ·rw [show m4 hs d s.m (k.fin x y) h=bz (hs.map (·.2)) s.m h from cC hst.2]
  exact dD hst.1
 ·rw [show fp2 hs d fp fp' (k.fin x y) h=(if h ∈ hs.map (·.2) then [] else fp h) from cC hst.2,if_neg hst.1]
 ·intro h blk hst hm;rcases qI S E hok hsm hk hr hf hst hm with ⟨j,b,q1,rfl,q2,q3,q4⟩ | ⟨_,rfl,_,q4⟩
  ·rcases nI hf q1 with ⟨e,kk,R,rfl,_⟩ | ⟨ty,vs,g,rfl,_,_⟩
   ·refine .inr (.inl ⟨e,kk,R,rfl,?_⟩);obtain ⟨p1,p2,p3⟩:=E.mem j _ (jN S E hok hsm hk hr hf q1);refine ⟨p1,p2,?_⟩;rw [q3,q4];rcases p3 with p3 | ⟨b,cap,cs,f0,r1,r2,r3,r4,r5,r6,r7,r8⟩
    ·exact .inl p3
    ·exact .inr ⟨b,cap,cs,f0,r1,r2,r3,r4,r5,r6,r7,by simp⟩
   ·refine .inr (.inr ⟨ty,_,rfl,?_⟩);obtain ⟨p0,b,cvs,r1,r2,r3,r4⟩:=E.mem j _ (jN S E hok hsm hk hr hf q1);exact ⟨by rw [q4]; exact p0,b,cvs,by rw [q3]; exact r1,r2,E9 S E hok hsm hk hr hf (q9 S E hok hsm hk hr hf) (fun j e kk R hj=>BV S E hok hsm hk hr hf hj) r3,r4⟩
  ·exact .inl ⟨rfl,q4⟩
 ·intro h blk hst hm;rcases O h blk hst hm with ⟨j,b,q1,q2,q3⟩ | q3
  ·rw [q3]; exact E.nodup j _ (jN S E hok hsm hk hr hf q1)
  ·rw [q3]; exact List.nodup_nil
 ·intro h blk hst hm b hb hG;rcases O h blk hst hm with ⟨j,b0,q1,q2,q3⟩ | q3
  ·rw [q3] at hb;exact FR j b0 q1 b hb (KG b hG)
  ·rw [q3] at hb; cases hb
 ·intro h blk hst hm b hb h' blk' hst' hm' hb';rcases O h blk hst hm with ⟨j,b0,q1,q2,q3⟩ | q3
  ·rw [q3] at hb;exact FR j b0 q1 b hb (KS h' blk' hst'.1 hm' b hb')
  ·rw [q3] at hb; cases hb
 ·intro h blk h' blk' hst hm hst' hm' hne b hb hb';rcases O h blk hst hm with ⟨j,b0,q1,q2,q3⟩ | q3
  ·rcases O h' blk' hst' hm' with ⟨j',b0',q1',q2',q3'⟩ | q3'
   ·rw [q3] at hb;rw [q3'] at hb';exact E.disj j j' _ _ (jN S E hok hsm hk hr hf q1) (jN S E hok hsm hk hr hf q1') (by intro e; subst e; exact hne (q2.symm.trans q2')) b hb hb'
   ·rw [q3'] at hb'; cases hb'
  ·rw [q3] at hb; cases hb
 ·intro h hh;by_cases hst:h ∉ hs.map (·.2) /\ ∀ p ∈ k.fin x y,rho hs d p.1 ≠ h
  ·refine ⟨?_,cC hst.2⟩;rw [show m4 hs d s.m (k.fin x y) h=bz (hs.map (·.2)) s.m h from cC hst.2,dD hst.1]
   exact hh
  ·by_cases hex:∃ p ∈ k.fin x y,rho hs d p.1=h
   ·obtain ⟨⟨j,b⟩,hp,rfl⟩:=hex;have e1:=q9 S E hok hsm hk hr hf _ _ hp;have e2:β2 hs d β β' (k.fin x y) (rho hs d j) = β' j:=df (g:=fun j _=>β' j) hr hp;refine ⟨by rw [e1]; rfl,?_⟩
    rcases nI hf hp with ⟨e,kk,R,rfl,q | ⟨q1,q2⟩⟩ | ⟨ty,vs,g,rfl,q1,q2⟩
    ·obtain ⟨g,g1,g2,_⟩:=q;rw [e2,Bb S E hok hsm hk hr hf (.inl g2) g1];simp [rho,g1]
    ·exfalso;simp only [rho,q1] at hh;rw [q2] at hh;cases hh
    ·rw [e2,Bb S E hok hsm hk hr hf (.inr q1) q2];simp [rho,q2]
   ·have hex':∀ p ∈ k.fin x y,rho hs d p.1 ≠ h:=fun p hp he=>hex ⟨p,hp,he⟩;have hin:h ∈ hs.map (·.2):=Classical.byContradiction fun hc=>hst ⟨hc,hex'⟩;refine ⟨?_,cC hex'⟩;rw [show m4 hs d s.m (k.fin x y) h=bz (hs.map (·.2)) s.m h from cC hex',eE hin]
    rfl
 ·intro h e kk R hh hm;by_cases hst:h ∉ hs.map (·.2) /\ ∀ p ∈ k.fin x y,rho hs d p.1 ≠ h
  ·rw [show m4 hs d s.m (k.fin x y) h=bz (hs.map (·.2)) s.m h from cC hst.2,dD hst.1] at hm
   exact ⟨true,R,hm⟩
  ·rcases qI S E hok hsm hk hr hf hst hm with ⟨j,b,q1,e1,rfl,q3,q4⟩ | ⟨_,e0,_,_⟩
   ·rcases nI hf q1 with ⟨e',kk',R',rfl,q | ⟨r1,r2⟩⟩ | ⟨ty,vs,g,rfl,_⟩
    ·simp only [d9] at e1;cases e1;obtain ⟨g,g1,_,R0,g2⟩:=q;refine ⟨true,R0,?_⟩
     simpa [rho,g1] using g2
    ·exfalso;simp only [rho,r1] at hh;rw [r2] at hh;cases hh
    ·simp only [d9] at e1;cases e1
   ·cases e0
theorem yx {v u} (h:RelL w' (k.end_ x y).m β' (dV w s.m β fp hs k x L) [v] [u]) :
  RelL w' (wm (m4 hs d s.m (k.fin x y))) (β2 hs d β β' (k.fin x y)) c [ge (rho hs d) (m4 hs d s.m (k.fin x y)) v] [u]:=by
 have:=yy S E hok hsm hk hr hf (q9 S E hok hsm hk hr hf) (fun j e kk R hj=>BV S E hok hsm hk hr hf hj) h;have e:(ld (rho hs d) v).wipe1 (m4 hs d s.m (k.fin x y))=ge (rho hs d) (m4 hs d s.m (k.fin x y)) v:=by cases v <;> rfl
 rwa [e] at this
theorem E8:∀ {vs us},RelL w' (k.end_ x y).m β' (dV w s.m β fp hs k x L) vs us ->
  RelL w' (wm (m4 hs d s.m (k.fin x y))) (β2 hs d β β' (k.fin x y)) c (vs.map (ge (rho hs d) (m4 hs d s.m (k.fin x y)))) us:=by
 intro vs
 induction vs with
 | nil=>intro us h; cases h; exact .lnil
 | cons v vs ih =>
  intro us h;obtain ⟨u,us',rfl,h1,h2⟩:=h.uncons;exact (yx S E hok hsm hk hr hf h1).append (ih h2)
theorem yz {v u} (h:RelL w' (k.end_ x y).m β' (dV w s.m β fp hs k x L) [v] [u]) :
  RelL w' (wm (m4 hs d s.m (k.fin x y))) (β2 hs d β β' (k.fin x y)) c [gg (rho hs d) (m4 hs d s.m (k.fin x y)) v] [u]:=by
 unfold gg;split
 ·cases h with
  | agg h1 h2 _=>exact .agg (E8 S E hok hsm hk hr hf h1) h2 .lnil
 ·exact yx S E hok hsm hk hr hf h
theorem Fd:∀ {vs us},RelL w' (k.end_ x y).m β' (dV w s.m β fp hs k x L) vs us ->
  RelL w' (wm (m4 hs d s.m (k.fin x y))) (β2 hs d β β' (k.fin x y)) c (vs.map (gg (rho hs d) (m4 hs d s.m (k.fin x y)))) us:=by
 intro vs
 induction vs with
 | nil=>intro us h; cases h; exact .lnil
 | cons v vs ih =>
  intro us h;obtain ⟨u,us',rfl,h1,h2⟩:=h.uncons;exact (yz S E hok hsm hk hr hf h1).append (ih h2)
theorem Fe {v u} (h:RelL w' (k.end_ x y).m β' (dV w s.m β fp hs k x L) [v] [u]) :
  RelL w' (wm (m4 hs d s.m (k.fin x y))) (β2 hs d β β' (k.fin x y)) c [eK (rho hs d) (m4 hs d s.m (k.fin x y)) v] [u]:=by
 unfold eK;split
 ·cases h with
  | tup h1 _=>exact .tup (Fd S E hok hsm hk hr hf h1) .lnil
 ·exact yz S E hok hsm hk hr hf h
end
def oO (k:Con) (d:Nat) (us:List AV) (conds:Bool) (s:St) (K:AV->St->Prop):Prop :=
 ∃ x:k.A,match j1 s.m (k.args x) us with
  | none=>False
  | some A=>match mr s.m A.hs (k.boxes x) with
   | none=>False
   | some B=>A.p/\B.p/\fO s.m (A.hs++B.hs) (k.owns x)/\jV (A.hs++B.hs) (dx k x)/\(∀ h ∈ A.vw++B.vw,∀ p ∈ A.hs++B.hs,p.2 ≠ h)/\(∀ i ∈ k.lends,i ∈ (k.owns x).map (·.1))/\us.length<=k.n/\conds=true/\k.pre x /\
    ∀ y,k.post x y->((k.fin x y).map (·.1)).Nodup/\((k.fin x y).map fun p=>rho (A.hs++B.hs) d p.1).Nodup/\lZ (A.hs++B.hs) d s.m ((k.boxes x).map (·.1)) k.lends (k.fin x y) /\
     K (eK (rho (A.hs++B.hs) d) (m4 (A.hs++B.hs) d s.m (k.fin x y)) (k.res x y)) (s.wipe (m4 (A.hs++B.hs) d s.m (k.fin x y)))
theorem D4 {k:Con} {d:Nat} {us:List AV} {conds:Bool} {s:St} {K:AV->St->Prop} (h:oO k d us conds s K):conds=true:=by
 obtain ⟨x,hx⟩:=h;split at hx
 ·exact hx.elim
 ·split at hx
  ·exact hx.elim
  ·exact hx.2.2.2.2.2.2.2.1
theorem Mz {m}:∀ {xs ys q},j1 m xs ys=some q->xs.length=ys.length:=by
 intro xs
 induction xs with
 | nil=>intro ys q h; cases ys with | nil=>rfl | cons=>cases h
 | cons x xs ih =>
  intro ys q h;cases ys with
  | nil=>cases h
  | cons y ys =>
   unfold j1 at h;split at h
   ·rename_i hb;simp [ih hb]
   ·cases h
theorem F4 {w:World} {c:Cx} {s:St} {a:Act} {β fp} (S:SatI c s a w β fp) {hs:List (Nat × Nat)} {k:Con} {x:k.A} {L}:∀ b,c.G b->(dV w s.m β fp hs k x L).G b/\w.heap[b]? = c.w0.heap[b]? :=
 fun b hG=>⟨⟨Nat.lt_of_lt_of_le (S.old b hG).1 S.size,fun _ _ h _ blk hm hb=>S.free h blk hm b hb hG⟩,(S.old b hG).2⟩
theorem D5 {P:Program} {f:Nat} {k:Con} (H:Has P f k) {w:World} {c:Cx} (hkn:Kn k.need c) {s:St} {a:Act} {β fp} (S:SatI c s a w β fp) {d:Nat} {us:List AV} {vs:List Value} {conds:Bool} {K:AV->St->Prop} (hr:conds=true->RelL w s.m β c us vs)
  (h:oO k d us conds s K) :
  Calls P f vs.toArray w fun e w'=>∃ v av s',e = .returned v/\K av s' /\ ∃ β' fp',SatI c s' a w' β' fp'/\RelL w' s'.m β' c [av] [v]:=by
 obtain ⟨x,h⟩:=h;split at h
 ·exact h.elim
 ·rename_i A hA;split at h
  ·exact h.elim
  ·rename_i B hB;obtain ⟨hAp,hBp,hown,hok,hvw,hlend,hlen,hcond,hpre,hpost⟩:=h;have hr:=hr hcond;have hl2:=hr.length;have hl3:=Mz hA;obtain ⟨L,E0⟩:=G1 S rfl hr hA hAp hB hBp hown hok hvw hlend (by rw [<- hl2]; exact hlen)
   have hcall:=H.calls x hpre _ (hkn.to (F4 S)) vs _ _ rfl rfl (by rw [<- hl2,<- hl3]) (by rw [<- hl2]; exact hlen) E0
   refine hcall.mono ?_;rintro e w' ⟨y,hy,v,rfl,β',fp',a',E,hv⟩;obtain ⟨q1,q2,q3,q4⟩:=hpost y hy;exact ⟨v,_,_,rfl,q4,_,_,(Gk (d:=d) S E hok trivial q1 q2 q3).sat S,Fe S E hok trivial q1 q2 q3 hv⟩
theorem nd3 {b:Nat} {A F B:List Nat} (h:(b :: (A++B)).Nodup) (h2:F.Nodup) (h3:∀ z ∈ b :: (A++B),z ∉ F):(b :: (A++(F++B))).Nodup:=by
 simp only [List.nodup_cons,List.nodup_append,List.mem_append,List.mem_cons] at h h3 ⊢;obtain ⟨h1,h4,h5,h6⟩:=h;refine ⟨?_,h4,⟨h2,h5,?_⟩,?_⟩
 ·rintro (h | h | h)
  ·exact h1 (.inl h)
  ·exact h3 b (.inl rfl) h
  ·exact h1 (.inr h)
 ·rintro x hx y hy rfl;exact h3 x (.inr (.inr hy)) hx
 ·rintro x hx y (hy | hy) rfl
  ·exact h3 x (.inr (.inl hx)) hy
  ·exact h6 x hx x hy rfl
theorem zR {R:List (List D)} {k:Nat} (hR:∀ r ∈ R,r.length=k) {i j:Nat} {x y:D} (hi:i < R.length) (hj:(R.getD i [])[j]? = some x) :
  R.flatten=R.flatten.take (i * k+j)++(x :: R.flatten.drop (i * k+j+1))/\(setRow k R i j [y]).flatten=R.flatten.take (i * k+j)++(y :: R.flatten.drop (i * k+j+1)):=by
 have hl:(R.getD i []).length=k:=by
  rw [List.getD_eq_getElem?_getD,List.getElem?_eq_getElem hi];exact hR _ (List.getElem_mem hi)
 have hjl:j < (R.getD i []).length:=(List.getElem?_eq_some_iff.1 hj).1;have hjk:j+1<=k:=by omega
 constructor
 ·have h1:=vt hR (i:=i) (off:=j) (ds:=[x]) hi (by simpa using hjk)
  have h2:(R.getD i []).take j++([x]++(R.getD i []).drop (j+[x].length))=R.getD i []:=by
   have:(R.getD i [])[j]=x:=(List.getElem?_eq_some_iff.1 hj).2;rw [<- this];simp
  rw [h2] at h1;have h3:R.set i (R.getD i [])=R:=by
   rw [List.getD_eq_getElem?_getD,List.getElem?_eq_getElem hi];simp
  rw [h3] at h1
  simpa using h1
 ·rw [lg hR hi];have h1:=vt hR (i:=i) (off:=j) (ds:=[y]) hi (by simpa using hjk)
  rw [h1];simp
theorem OP {w e' k' rows v0 f1} (hk:0 < k') (h:RdL true w [.sl e' k' rows] [v0] f1) :
  ∃ f,(∀ m β c g,β g=v0->BlkOk w m β c g f (.own e' k' true rows))/\(∀ (β:Nat->Value) g,β g=v0->Ob β g f (.own e' k' true rows)=f1.map (·.1)):=by
 cases h with
 | sl0 hc h0 hn =>
  obtain ⟨rfl,rfl⟩:=h0 rfl;cases hn;exact ⟨[],fun m β c g hg=>⟨hk,by simp,.inl ⟨hg,rfl,rfl⟩⟩,fun β g hg=>by simp [Ob,hg]⟩
 | @sl b off n c e k rows cs ty fr cvs f1 _ _ f2 h1 h2 h3 h4 h5 h6 hq h7 a1 a2 =>
  cases a2;obtain ⟨rfl,rfl,rfl,hsz⟩:=hq rfl;subst h1;refine ⟨f1,fun m β cx g hg=>⟨hk,h5,.inr ⟨b,c,cs,f1,hg,h6,h3,h4,hsz,?_,fun _=>rfl,by simp⟩⟩,fun β g hg=>by simp [Ob,hg]⟩
  have hlen:cvs.length=rows.length * k':=by rw [<- a1.length,eX h5]
  have e:cs.toList.take (rows.length * k')=cvs:=by
   apply List.ext_getElem?;intro j;rw [List.getElem?_take];split
   ·rename_i hj;have hj':j < cvs.length:=by omega
    have:=h7 j cvs[j] (List.getElem?_eq_getElem hj');rw [List.getElem?_eq_getElem hj']
    simpa using this
   ·rw [List.getElem?_eq_none (by omega)]
  rw [e];exact a1
theorem L7 {w m β c g f e' k' rows} (hb:BlkOk w m β c g f (.own e' k' true rows)) :
  ∃ f1,RdL true w [.sl e' k' rows] [β g] f1/\f1.map (·.1)=Ob β g f (.own e' k' true rows):=by
 obtain ⟨hk,hR,h4⟩:=hb;rcases h4 with ⟨q1,q2,q3⟩ | ⟨b,cap,cs,f0,q1,q2,q3,q4,q5,q6,q7,q8⟩
 ·subst q2;refine ⟨[],by rw [q1]; exact .sl0 (by unfold maxLen; omega) (by simp) .nil,?_⟩
  simp [Ob,q1,q3]
 ·refine ⟨(b,0+(cs.toList.take (rows.length * k')).length) :: (f0++[]),?_,?_⟩
  ·rw [q1];exact .sl rfl (.inl ⟨rfl,hk⟩) q3 q4 hR q2 (fun _=>⟨rfl,rfl,rfl,q5⟩) (fun j u hu=>by
    rw [List.getElem?_take] at hu;split at hu
    ·simpa using hu
    ·cases hu) q6 .nil
  ·simp [Ob,q1,q7 rfl]
abbrev cG (m:Nat->Option Blk) (h e k:Nat) (R:List (List D)) (i j:Nat) (y:D) (g e' k':Nat) (rows:List (List D)):Nat->Option Blk :=
 upd (upd m h (some (.own e k true (setRow k R i j [y])))) g (some (.own e' k' true rows))
abbrev eo (m:Nat->Option Blk) (h e k:Nat) (R:List (List D)) (i j g e' k':Nat) (rows:List (List D)):Nat->Option Blk :=
 upd (upd m h (some (.own e k true (setRow k R i j [.sl e' k' rows])))) g (some .dead)
section
variable {w:World} {c:Cx} {s:St} {a:Act} {β:Nat->Value} {fp:Nat->List (Nat × Nat)} (S:SatI c s a w β fp)
include S
theorem xC {h e k:Nat} {R:List (List D)} {i j e' k':Nat} {rows:List (List D)} {g:Nat} (hm:s.m h=some (.own e k true R)) (hi:i < R.length) (hj:(R.getD i [])[j]? = some (.sl e' k' rows)) (hk':0 < k') (hg:s.m g=none) :
  ∃ v0 fp',rX w β h (i * k+j) v0/\v0.oneCell'=true /\ ∀ y,RdL true w [y] [v0] [] ->
   Chg c s w β fp w (cG s.m h e k R i j y g e' k' rows) (upd β g v0) fp' (fun x=>x ≠ h/\x ≠ g):=by
 have hgh:g ≠ h:=by rintro rfl; rw [hm] at hg; cases hg
 obtain ⟨hk,hR,h3⟩:=S.mem h _ hm;rcases h3 with ⟨_,q2,_⟩ | ⟨b,cap,cs,f0,q1,q2,q3,q4,q5,q6,q7,_⟩
 ·subst q2; simp at hi
 have q7:=q7 rfl;have hfl:=fun y=>zR (y:=y) hR hi hj;have hnd:=S.nodup h _ hm;have hfree:=S.free h _ hm;have hdisj:=fun h' blk' (hm':s.m h'=some blk') (hne:h' ≠ h)=>S.disj h h' _ _ hm hm' (Ne.symm hne);rw [(hfl .junk).1] at q6;obtain ⟨vs1,vs2,fA,fR,e1,e2,r1,r2⟩:=q6.unappend;obtain ⟨v0,vB,f1,fB,rfl,rfl,r3,r4⟩:=r2.uncons;obtain ⟨f,hf1,hf2⟩:=OP hk' r3;have hob:Ob β h (fp h) (.own e k true R)=b :: (f0.map (·.1)):=by simp [Ob,q1,q7]
 rw [hob] at hnd hfree hdisj;rw [e2] at hnd hfree hdisj;have hone:=r3.oneCell v0 (by simp)
 have hA:vs1.length=i * k+j:=by
  have:=r1.length;rw [List.length_take] at this;have hl:=eX hR;have hjk:j < k:=by
   have:=(List.getElem?_eq_some_iff.1 hj).1;have hl':(R.getD i []).length=k:=by
    rw [List.getD_eq_getElem?_getD,List.getElem?_eq_getElem hi];exact hR _ (List.getElem_mem hi)
   omega
  have:i * k+j < R.length * k:=by
   have:(i+1) * k<=R.length * k:=Nat.mul_le_mul_right k hi;rw [Nat.succ_mul] at this;omega
  omega
 refine ⟨v0,upd (upd fp h (fA++fB)) g f,?_,hone,fun y hy=>?_⟩
 ·refine ⟨b,R.length,cap,q1,?_⟩;have:(cs.toList.take (R.length * k))[i * k+j]? = some v0:=by
   rw [e1,List.getElem?_append_right (by omega),hA]
   simp
  rw [List.getElem?_take] at this;split at this
  ·simp only [World.cell?,q2]
   simpa using this
  ·cases this
 ·have Oh:Ob (upd β g v0) h (upd (upd fp h (fA++fB)) g f h) (.own e k true (setRow k R i j [y]))=b :: ((fA++fB).map (·.1)):=by simp [Ob,upd_ne _ _ (Ne.symm hgh),q1]
  have Og:Ob (upd β g v0) g (upd (upd fp h (fA++fB)) g f g) (.own e' k' true rows)=f1.map (·.1):=by
   simp only [upd_same];exact hf2 _ g (upd_same _ _ _)
  have kinds:∀ x blk,¬ (x ≠ h/\x ≠ g)->cG s.m h e k R i j y g e' k' rows x=some blk->(x=h/\blk = .own e k true (setRow k R i j [y])) \/ (x=g/\blk = .own e' k' true rows):=by
   intro x blk hx hb;by_cases hxg:x=g
   ·subst hxg;rw [show cG s.m h e k R i j y x e' k' rows x=_ from upd_same _ _ _] at hb
    cases hb;exact .inr ⟨rfl,rfl⟩
   ·have hxh:x=h:=Classical.byContradiction fun hc=>hx ⟨hc,hxg⟩;subst hxh;rw [show cG s.m x e k R i j y g e' k' rows x=_ from (upd_ne _ _ hxg).trans (upd_same _ _ _)] at hb
    cases hb;exact .inl ⟨rfl,rfl⟩
  have obs:∀ x blk,¬ (x ≠ h/\x ≠ g)->cG s.m h e k R i j y g e' k' rows x=some blk -> ∀ z ∈ Ob (upd β g v0) x (upd (upd fp h (fA++fB)) g f x) blk,z ∈ b :: ((fA++(f1++fB)).map (·.1)):=by
   intro x blk hx hb z hz;rcases kinds x blk hx hb with ⟨rfl,rfl⟩ | ⟨rfl,rfl⟩
   ·rw [Oh] at hz;simp only [List.map_append,List.mem_cons,List.mem_append] at hz ⊢
    grind
   ·rw [Og] at hz;simp only [List.map_append,List.mem_cons,List.mem_append] at hz ⊢
    grind
  have slen:(setRow k R i j [y]).length=R.length:=by unfold setRow; split <;> simp
  have hjk:j+1<=k:=by
   have h1:=(List.getElem?_eq_some_iff.1 hj).1;have hl':(R.getD i []).length=k:=by
    rw [List.getD_eq_getElem?_getD,List.getElem?_eq_getElem hi];exact hR _ (List.getElem_mem hi)
   omega
  refine ⟨fun _ _=>rfl,Nat.le_refl _,rfl,rfl,rfl,fun x hx=>⟨(upd_ne _ _ hx.2).trans (upd_ne _ _ hx.1),upd_ne _ _ hx.2,(upd_ne _ _ hx.2).trans (upd_ne _ _ hx.1)⟩,fun _ _ _ _ _ _=>rfl,?_,?_,?_,?_,?_,?_,?_⟩
  ·intro x blk hx hb;rcases kinds x blk hx hb with ⟨rfl,rfl⟩ | ⟨rfl,rfl⟩
   ·refine .inr (.inl ⟨_,_,_,rfl,hk,rG hR hi (by simpa using hjk),.inr ⟨b,cap,cs,fA++fB,?_,q2,by omega,q4,q5,?_,fun _=>?_,by simp⟩⟩)
    ·rw [upd_ne _ _ (Ne.symm hgh),q1,slen]
    ·rw [slen,(hfl y).2,e1];have:=r1.append (hy.append r4)
     simpa using this
    ·rw [upd_ne _ _ (Ne.symm hgh),upd_same]
   ·exact .inr (.inl ⟨_,_,_,rfl,by rw [upd_same]; exact hf1 _ _ _ _ (upd_same _ _ _)⟩)
  ·intro x blk hx hb;rcases kinds x blk hx hb with ⟨rfl,rfl⟩ | ⟨rfl,rfl⟩
   ·rw [Oh];simp only [List.map_append,List.nodup_cons,List.nodup_append,List.mem_append] at hnd ⊢
    grind
   ·rw [Og];simp only [List.map_append,List.nodup_cons,List.nodup_append,List.mem_append] at hnd ⊢
    grind
  ·intro x blk hx hb z hz;exact hfree z (obs x blk hx hb z hz)
  ·intro x blk hx hb z hz h' blk' hst hm' hz';exact hdisj h' blk' hm' hst.1 z (obs x blk hx hb z hz) hz'
  ·intro x blk x' blk' hx hb hx' hb' hne z hz hz';rcases kinds x blk hx hb with ⟨rfl,rfl⟩ | ⟨rfl,rfl⟩ <;> rcases kinds x' blk' hx' hb' with ⟨rfl,rfl⟩ | ⟨rfl,rfl⟩
   ·exact hne rfl
   ·rw [Oh] at hz;rw [Og] at hz';simp only [List.map_append,List.nodup_cons,List.nodup_append,List.mem_append,List.mem_cons] at hnd hz
    grind
   ·rw [Og] at hz;rw [Oh] at hz';simp only [List.map_append,List.nodup_cons,List.nodup_append,List.mem_append,List.mem_cons] at hnd hz'
    grind
   ·exact hne rfl
  ·intro x hx;have hxg:x ≠ g:=by rintro rfl; rw [hg] at hx; cases hx
   refine ⟨?_,upd_ne _ _ hxg⟩;rw [show cG s.m h e k R i j y g e' k' rows x=_ from upd_ne _ _ hxg]
   by_cases hxh:x=h
   ·subst hxh; simp
   ·rw [upd_ne _ _ hxh]; exact hx
  ·intro x e2 k2 R2 hx hb;have hxg:x ≠ g:=by rintro rfl; rw [hg] at hx; cases hx
   rw [show cG s.m h e k R i j y g e' k' rows x=_ from upd_ne _ _ hxg] at hb
   by_cases hxh:x=h
   ·subst hxh;rw [upd_same] at hb;cases hb;exact ⟨_,_,hm⟩
   ·rw [upd_ne _ _ hxh] at hb;exact ⟨_,_,hb⟩
theorem Bu {h e k:Nat} {R:List (List D)} {i j e' k':Nat} {rows:List (List D)} {g:Nat} {v0:Value} (hm:s.m h=some (.own e k true R)) (hi:i < R.length) (hj:(R.getD i [])[j]? = some (.raw v0))
  (hg:s.m g=some (.own e' k' true rows)) (hv:β g=v0) (hgh:g ≠ h) :
  ∃ fp',Chg c s w β fp w (eo s.m h e k R i j g e' k' rows) β fp' (fun x=>x ≠ h/\x ≠ g):=by
 obtain ⟨hk,hR,h3⟩:=S.mem h _ hm;rcases h3 with ⟨_,q2,_⟩ | ⟨b,cap,cs,f0,q1,q2,q3,q4,q5,q6,q7,_⟩
 ·subst q2; simp at hi
 have q7:=q7 rfl;have hfl:=zR (y:=.sl e' k' rows) hR hi hj;have hnd:=S.nodup h _ hm;have hfree:=S.free h _ hm;have hnd2:=S.nodup g _ hg;have hfree2:=S.free g _ hg;have hd2:=S.disj h g _ _ hm hg (Ne.symm hgh);have hdisj:=fun h' blk' (hm':s.m h'=some blk') (hne:h' ≠ h)=>S.disj h h' _ _ hm hm' (Ne.symm hne);have hdisj2:=fun h' blk' (hm':s.m h'=some blk') (hne:h' ≠ g)=>S.disj g h' _ _ hg hm' (Ne.symm hne);obtain ⟨f1,r3',hf1⟩:=L7 (S.mem g _ hg);rw [hfl.1] at q6;obtain ⟨vs1,vs2,fA,fR,e1,e2,r1,r2⟩:=q6.unappend;obtain ⟨u0,vB,fz,fB,rfl,rfl,r3,r4⟩:=r2.uncons;obtain ⟨rfl,rfl⟩:u0=v0/\fz=[]:=by
  cases r3 with
  | raw _ h=>cases h; exact ⟨rfl,rfl⟩
 rw [hv] at r3';have hob:Ob β h (fp h) (.own e k true R)=b :: (f0.map (·.1)):=by simp [Ob,q1,q7]
 rw [hob] at hnd hfree hdisj hd2;rw [e2] at hnd hfree hdisj hd2;rw [<- hf1] at hnd2 hfree2 hdisj2 hd2;refine ⟨upd (upd fp h (fA++(f1++fB))) g [],?_⟩;have Oh:Ob β h (upd (upd fp h (fA++(f1++fB))) g [] h) (.own e k true (setRow k R i j [.sl e' k' rows]))=b :: ((fA++(f1++fB)).map (·.1)):=by simp [Ob,upd_ne _ _ (Ne.symm hgh),q1]
 have kinds:∀ x blk,¬ (x ≠ h/\x ≠ g)->eo s.m h e k R i j g e' k' rows x=some blk->(x=h/\blk = .own e k true (setRow k R i j [.sl e' k' rows])) \/ (x=g/\blk = .dead):=by
  intro x blk hx hb;by_cases hxg:x=g
  ·subst hxg;rw [show eo s.m h e k R i j x e' k' rows x=_ from upd_same _ _ _] at hb
   cases hb;exact .inr ⟨rfl,rfl⟩
  ·have hxh:x=h:=Classical.byContradiction fun hc=>hx ⟨hc,hxg⟩;subst hxh;rw [show eo s.m x e k R i j g e' k' rows x=_ from (upd_ne _ _ hxg).trans (upd_same _ _ _)] at hb
   cases hb;exact .inl ⟨rfl,rfl⟩
 have Og:Ob β g (upd (upd fp h (fA++(f1++fB))) g [] g) .dead=[]:=by simp [Ob]
 have mem:∀ z,z ∈ b :: ((fA++(f1++fB)).map (·.1))->z ∈ b :: ((fA++([]++fB)).map Prod.fst) \/ z ∈ f1.map (·.1):=by
  intro z hz;simp only [List.map_append,List.mem_cons,List.mem_append,List.map_nil,List.nil_append] at hz ⊢
  grind
 have slen:(setRow k R i j [.sl e' k' rows]).length=R.length:=by unfold setRow; split <;> simp
 have hjk:j+1<=k:=by
  have h1:=(List.getElem?_eq_some_iff.1 hj).1;have hl':(R.getD i []).length=k:=by
   rw [List.getD_eq_getElem?_getD,List.getElem?_eq_getElem hi];exact hR _ (List.getElem_mem hi)
  omega
 refine ⟨fun _ _=>rfl,Nat.le_refl _,rfl,rfl,rfl,fun x hx=>⟨(upd_ne _ _ hx.2).trans (upd_ne _ _ hx.1),rfl,(upd_ne _ _ hx.2).trans (upd_ne _ _ hx.1)⟩,fun _ _ _ _ _ _=>rfl,?_,?_,?_,?_,?_,?_,?_⟩
 ·intro x blk hx hb;rcases kinds x blk hx hb with ⟨rfl,rfl⟩ | ⟨rfl,rfl⟩
  ·refine .inr (.inl ⟨_,_,_,rfl,hk,rG hR hi (by simpa using hjk),.inr ⟨b,cap,cs,fA++(f1++fB),?_,q2,by omega,q4,q5,?_,fun _=>?_,by simp⟩⟩)
   ·rw [q1,slen]
   ·rw [slen,hfl.2,e1];have:=r1.append (r3'.append r4)
    simpa using this
   ·rw [upd_ne _ _ (Ne.symm hgh),upd_same]
  ·exact .inl ⟨rfl,upd_same _ _ _⟩
 ·intro x blk hx hb;rcases kinds x blk hx hb with ⟨rfl,rfl⟩ | ⟨rfl,rfl⟩
  ·rw [Oh];simp only [List.map_append,List.map_nil,List.nil_append] at hnd hd2 ⊢;exact nd3 hnd hnd2 hd2
  ·rw [Og]; exact List.nodup_nil
 ·intro x blk hx hb z hz;rcases kinds x blk hx hb with ⟨rfl,rfl⟩ | ⟨rfl,rfl⟩
  ·rw [Oh] at hz;rcases mem z hz with h | h
   ·exact hfree z h
   ·exact hfree2 z h
  ·rw [Og] at hz; cases hz
 ·intro x blk hx hb z hz h' blk' hst hm' hz';rcases kinds x blk hx hb with ⟨rfl,rfl⟩ | ⟨rfl,rfl⟩
  ·rw [Oh] at hz;rcases mem z hz with h | h
   ·exact hdisj h' blk' hm' hst.1 z h hz'
   ·exact hdisj2 h' blk' hm' hst.2 z h hz'
  ·rw [Og] at hz; cases hz
 ·intro x blk x' blk' hx hb hx' hb' hne z hz hz';rcases kinds x blk hx hb with ⟨rfl,rfl⟩ | ⟨rfl,rfl⟩ <;> rcases kinds x' blk' hx' hb' with ⟨rfl,rfl⟩ | ⟨rfl,rfl⟩
  ·exact hne rfl
  ·rw [Og] at hz'; cases hz'
  ·rw [Og] at hz; cases hz
  ·exact hne rfl
 ·intro x hx;refine ⟨?_,rfl⟩;by_cases hxg:x=g
  ·subst hxg; simp [eo]
  ·rw [show eo s.m h e k R i j g e' k' rows x=_ from upd_ne _ _ hxg]
   by_cases hxh:x=h
   ·subst hxh; simp
   ·rw [upd_ne _ _ hxh]; exact hx
 ·intro x e2 k2 R2 hx hb;by_cases hxg:x=g
  ·subst hxg;rw [show eo s.m h e k R i j x e' k' rows x=_ from upd_same _ _ _] at hb
   cases hb
  ·rw [show eo s.m h e k R i j g e' k' rows x=_ from upd_ne _ _ hxg] at hb
   by_cases hxh:x=h
   ·subst hxh;rw [upd_same] at hb;cases hb;exact ⟨_,_,hm⟩
   ·rw [upd_ne _ _ hxh] at hb;exact ⟨_,_,hb⟩
end
def fu:List AV->Option (Nat × Nat × Nat × Nat × List (List D))
 | []=>none
 | .sub h i j k rows :: _=>some (h,i,j,k,rows)
 | _ :: l=>fu l
def jA (g:Nat):List AV->List AV->List AV
 | .sub _ _ _ k rows :: _,_ :: us=>.own g k rows :: us
 | _ :: l,u :: us=>u :: jA g l us
 | _,us=>us
theorem Dr {k:Nat} {R:List (List D)} (hR:∀ r ∈ R,r.length=k) {i j:Nat} {y z:D} (hi:i < R.length) (hj:j < k) :
  i < (setRow k R i j [y]).length/\((setRow k R i j [y]).getD i [])[j]? = some y/\setRow k (setRow k R i j [y]) i j [z]=setRow k R i j [z]:=by
 have hl':(R.getD i []).length=k:=by
  rw [List.getD_eq_getElem?_getD,List.getElem?_eq_getElem hi];exact hR _ (List.getElem_mem hi)
 have hlen:=rG hR hi (off:=j) (ds:=[y]) (by simp only [List.length_cons,List.length_nil]; omega)
 have hi2:i < (setRow k R i j [y]).length:=by unfold setRow; split <;> simpa using hi
 refine ⟨hi2,?_,?_⟩
 ·rw [lg hR hi];simp only [List.getD_eq_getElem?_getD,List.getElem?_set_self hi,Option.getD_some];rw [List.getElem?_append_right (by simp; omega)]
  have:min j (R[i]?.getD []).length=j:=by rw [<- List.getD_eq_getElem?_getD,hl']; omega
  simp [List.length_take,this]
 ·rw [lg hlen hi2,lg hR hi,lg hR hi];simp only [List.getD_eq_getElem?_getD,List.getElem?_set_self hi,Option.getD_some,List.set_set];have hl2:(R[i]?.getD []).length=k:=by rw [<- List.getD_eq_getElem?_getD,hl']
  congr 1
  rw [List.take_append_of_le_length (by simp; omega),List.take_take,Nat.min_self]
  congr 2
  have hl3:((R[i]?.getD []).take j).length=j:=by simp; omega
  simp only [List.length_cons,List.length_nil,Nat.zero_add];rw [List.drop_append,List.drop_eq_nil_of_le (by omega),hl3]
  simp
def gS (k:Con) (d:Nat) (us:List AV) (conds:Bool) (s:St) (K:AV->St->Prop):Prop :=
 match fu us with
 | none=>if k.nob then gR k d us conds s K else oO k d us conds s K
 | some (h,i,j,kk,rows)=>match s.m h with
  | some (.own e k0 true R)=>(i < R.length/\(R.getD i [])[j]? = some (.sl k.sube kk rows)/\0 < kk/\s.m (d+1)=none) /\
    ∀ v0:Value,gR k d (jA (d+1) us (us.map (AV.wipe (cG s.m h e k0 R i j (.raw v0) (d+1) k.sube kk rows)))) conds (s.wipe (cG s.m h e k0 R i j (.raw v0) (d+1) k.sube kk rows)) fun av s' =>
     s'.m h=some (.own e k0 true (setRow k0 R i j [.raw v0]))/\match s'.m (d+1) with
      | some (.own e2 k2 true rows2)=>K (av.wipe (eo s'.m h e k0 R i j (d+1) e2 k2 rows2)) (s'.wipe (eo s'.m h e k0 R i j (d+1) e2 k2 rows2))
      | _=>False
  | _=>False
theorem D1 {P:Program} {f:Nat} {k:Con} (H:Has P f k) {w:World} {c:Cx} (hkn:Kn k.need c) {s:St} {a:Act} {β fp} (S:SatI c s a w β fp) {d:Nat} {us:List AV} {vs:List Value} {conds:Bool} {K:AV->St->Prop} (hr:conds=true->RelL w s.m β c us vs)
  (h:gR k d us conds s K) :
  Calls P f vs.toArray w fun e w'=>∃ v av s',e = .returned v/\K av s' /\ ∃ β' fp',SatI c s' a w' β' fp'/\RelL w' s'.m β' c [av] [v] /\ ∀ g,(s.m g).isSome=true -> β' g = β g:=by
 obtain ⟨x,h⟩:=h;split at h
 ·exact h.elim
 ·rename_i A hA;obtain ⟨hbx,hAp,hown,hok,hvw,hlend,hlen,hcond,hpre,hpost⟩:=h;have hr:=hr hcond;have hl2:=hr.length;have hl3:=B7 hA;obtain ⟨L,E0⟩:=zG S hr hA hAp hbx hown hok hvw hlend (by rw [<- hl2]; exact hlen)
  have hcall:=H.calls x hpre _ (hkn.to (zb S)) vs _ _ rfl rfl (by rw [<- hl2,<- hl3]) (by rw [<- hl2]; exact hlen) E0
  refine hcall.mono ?_;rintro e w' ⟨y,hy,v,rfl,β',fp',a',E,hv⟩;obtain ⟨q1,q2,q3,q4⟩:=hpost y hy;have C:=uZ (d:=d) S E hbx hown hok hlend q1 q2 q3;exact ⟨v,_,_,rfl,q4,_,_,C.sat S,yw S E hbx hown hok hlend q1 q2 q3 hv,fun g hg=>(C.some_ g hg).2⟩
theorem Qw {w m β c m1 β1 w1} {mm:Nat->Option Blk} (hw:∀ x v,RelL w m β c [x] [v]->RelL w1 m1 β1 c [x.wipe mm] [v]):∀ {us:List AV} {vs:List Value},RelL w m β c us vs->RelL w1 m1 β1 c (us.map (AV.wipe mm)) vs:=by
 intro us
 induction us with
 | nil=>intro vs h; cases h; exact .lnil
 | cons u us ih =>
  intro vs hr;obtain ⟨v,vs',rfl,h1,h2⟩:=hr.uncons;exact (hw _ _ h1).append (ih h2)
theorem Pf {w m β c m1 β1 w1} {h i j k rows g} (hv:∀ v,RelL w m β c [.sub h i j k rows] [v]->RelL w1 m1 β1 c [.own g k rows] [v]) {mm:Nat->Option Blk}
  (hw:∀ x v,RelL w m β c [x] [v]->RelL w1 m1 β1 c [x.wipe mm] [v]):∀ {us:List AV} {vs:List Value},fu us=some (h,i,j,k,rows)->RelL w m β c us vs->RelL w1 m1 β1 c (jA g us (us.map (AV.wipe mm))) vs:=by
 intro us
 induction us with
 | nil=>intro vs hs; cases hs
 | cons u us ih =>
  intro vs hs hr;obtain ⟨v,vs',rfl,h1,h2⟩:=hr.uncons;have rest:=Qw hw h2;cases u with
  | sub h' i' j' k' r' =>
   simp only [fu,Option.some.injEq,Prod.mk.injEq] at hs;obtain ⟨rfl,rfl,rfl,rfl,rfl⟩:=hs;exact (hv v h1).append rest
  | _=>exact (hw _ _ h1).append (ih hs h2)
theorem x5 {k:Con} {d:Nat} {us:List AV} {conds:Bool} {s:St} {K:AV->St->Prop} (h:gR k d us conds s K):conds=true:=by
 obtain ⟨x,hx⟩:=h;split at hx
 ·exact hx.elim
 ·exact hx.2.2.2.2.2.2.2.1
theorem D2 {k:Con} {d:Nat} {us:List AV} {conds:Bool} {s:St} {K:AV->St->Prop} (h:gS k d us conds s K):conds=true:=by
 unfold gS at h;split at h
 ·split at h
  ·exact x5 h
  ·exact D4 h
 ·split at h
  ·exact x5 (h.2 undef)
  ·exact h.elim
theorem D3 {P:Program} {f:Nat} {k:Con} (H:Has P f k) {w:World} {c:Cx} (hkn:Kn k.need c) {s:St} {a:Act} {β fp} (S:SatI c s a w β fp) {d:Nat} {us:List AV} {vs:List Value} {conds:Bool} {K:AV->St->Prop} (hr:conds=true->RelL w s.m β c us vs)
  (h:gS k d us conds s K) :
  Calls P f vs.toArray w fun e w'=>∃ v av s',e = .returned v/\K av s' /\ ∃ β' fp',SatI c s' a w' β' fp'/\RelL w' s'.m β' c [av] [v]:=by
 unfold gS at h;split at h
 ·split at h
  ·exact D0 H hkn S hr h
  ·exact D5 H hkn S hr h
 ·rename_i hh i j kk rows hsub;split at h
  ·rename_i e k0 R hm;obtain ⟨⟨hi,hj,hkk,hg⟩,h⟩:=h;obtain ⟨v0,fp1,hcell,hone,C1⟩:=xC S hm hi hj hkk hg;have C1:=C1 (.raw v0) (.raw hone .nil);have S1:=C1.sat S;have hgh:d+1 ≠ hh:=by rintro e; rw [<- e,hg] at hm; cases hm
   obtain ⟨hk0,hR,_⟩:=S.mem hh _ hm;have hjk:j < k0:=by
    have h1:=(List.getElem?_eq_some_iff.1 hj).1;have hl':(R.getD i []).length=k0:=by
     rw [List.getD_eq_getElem?_getD,List.getElem?_eq_getElem hi];exact hR _ (List.getElem_mem hi)
    omega
   have hwg:wm (cG s.m hh e k0 R i j (.raw v0) (d+1) k.sube kk rows) (d+1)=some (.own k.sube kk true rows):=by simp [wm,Blk.wipe]
   have hmg:cG s.m hh e k0 R i j (.raw v0) (d+1) k.sube kk rows (d+1)=some (.own k.sube kk true rows):=by simp
   have hown:=iu (fps:=fp1) hwg (C1.ownOk S hmg) (C1.nodup' S hwg) (fun h' blk' hm' hne=>C1.disj' S hwg hm' (Ne.symm hne)) (C1.free' S hwg);rw [upd_same] at hown;have hr1:conds=true->RelL w (s.wipe (cG s.m hh e k0 R i j (.raw v0) (d+1) k.sube kk rows)).m (upd β (d+1) v0) c (jA (d+1) us (us.map (AV.wipe (cG s.m hh e k0 R i j (.raw v0) (d+1) k.sube kk rows)))) vs:=by
    intro hc;refine Pf (fun v hv=>?_) (fun x v hx=>C1.rel S hx) hsub (hr hc);have:v=v0:=by
     cases hv with
     | sub _ _ h3 _ =>
      have hj2:R[i]? = some (R.getD i []):=by rw [List.getD_eq_getElem?_getD,List.getElem?_eq_getElem hi]; rfl
      obtain ⟨b,n,cc,p1,p2⟩:=h3 _ _ _ _ _ _ hm hj2 hj;obtain ⟨b',n',cc',p3,p4⟩:=hcell;rw [p1] at p3;cases p3;rw [p2] at p4;exact (Option.some.inj p4)
    subst this;exact hown
   refine (D1 H hkn S1 hr1 (h v0)).mono ?_;rintro e' w' ⟨v,av,s',rfl,⟨hk1,hk2⟩,β',fp',S2,hrel,hβ⟩;split at hk2
   ·rename_i e2 k2 rows2 hm2;obtain ⟨p1,p2,p3⟩:=Dr (y:=.raw v0) (z:=.sl e2 k2 rows2) hR hi hjk;have hb:β' (d+1)=v0:=by rw [hβ (d+1) (by rw [show (s.wipe _).m (d+1)=_ from hwg]; rfl),upd_same]
    obtain ⟨fp2,C2⟩:=Bu S2 hk1 p1 p2 hm2 hb hgh;have e:eo s'.m hh e k0 (setRow k0 R i j [.raw v0]) i j (d+1) e2 k2 rows2=eo s'.m hh e k0 R i j (d+1) e2 k2 rows2:=by simp only [eo,p3]
    rw [e] at C2;exact ⟨v,_,_,rfl,hk2,_,_,C2.sat S2,C2.rel S2 hrel⟩
   ·exact hk2.elim
  ·exact h.elim
def AV.selfOk (h:Nat):AV->Bool
 | .raw (.pointer none)=>true
 | .slf g=>g == h
 | .ptr g 0=>g == h
 | _=>false
def rowsOf (q:List UInt8):List (List D):=q.map fun b=>[D.int .u8 b.toNat]
def wrK (T:Nat->Option TI) (tB t d:Nat) (s:St) (ax ay:AV) (K:AV->(Nat->Option Blk)->Prop):Prop :=
 match ax,ay with
 | .ptr h 0,.str q=>match s.m h,T t with
  | some (.box ty [x,y]),some ts=>match T ts.elem with
   | some te=>match y.base s.m ts.elem te.cells.length with
    | some (hb,R,true)=>(ty=tB/\te.cells.length=1/\bi T t ≠ 0/\x.selfOk h=true/\s.m d=none)/\jF te R (rowsOf q) /\
      K (.tup [.int .i64 q.length,.junk]) (upd (rm s.m hb d (.own ts.elem te.cells.length true (R++rowsOf q))) h (some (.box ty [.slf h,.own d te.cells.length (R++rowsOf q)])))
    | _=>False
   | none=>False
  | _,_=>False
 | _,_=>False
def stK (tB te d:Nat) (s:St) (ax:AV) (K:AV->(Nat->Option Blk)->Prop):Prop :=
 match ax with
 | .ptr h 0=>match s.m h with
  | some (.box ty [_,y])=>match y.base s.m te 1 with
   | some (hb,R,true)=>(ty=tB/\s.m d=none) /\ ∃ l,R=rowsOf l/\K (.str l) (rm s.m hb d (.own te 1 true []))
   | _=>False
  | _=>False
 | _=>False
theorem Of (w:World) (q:List UInt8):RdL true w (rowsOf q).flatten (byteCells ⟨q.toArray⟩) []:=by
 have e:byteCells ⟨q.toArray⟩=q.map fun b=>Value.int .u8 b.toNat:=by simp [byteCells]
 rw [e];clear e
 induction q with
 | nil=>exact .nil
 | cons b q ih=>exact .int ih
theorem C6:∀ q:List UInt8,(rowsOf q).flatten=q.map fun b=>D.int .u8 b.toNat
 | []=>rfl
 | b :: q=>by
  show D.int .u8 b.toNat :: (rowsOf q).flatten=_
  rw [C6 q]; rfl
theorem C7 (q:List UInt8):(rowsOf q).length=q.length:=by simp [rowsOf]
theorem Oe (q:List UInt8):∀ x ∈ rowsOf q,x.length=1:=by
 intro x hx;simp only [rowsOf,List.mem_map] at hx;obtain ⟨b,_,rfl⟩:=hx; rfl
theorem Fu {m:Nat->Option Blk} {h e k:Nat} {ty:Nat} {us vs:List AV} {y:AV} (hm:m h=some (.box ty us)) {hb R dp} (hy:y.base m e k=some (hb,R,dp)):y.base (upd m h (some (.box ty vs))) e k=some (hb,R,dp):=by
 cases y <;> simp only [AV.base] at hy ⊢ <;> try (cases hy; done)
 ·exact hy
 ·rename_i g _ _;by_cases he:g=h
  ·subst he; rw [hm] at hy; cases hy
  ·rw [upd_ne _ _ he]; exact hy
theorem Ow {w m β c h x pv b} (hself:AV.selfOk h x=true) (r1:RelL w m β c [x] [pv]) (q1:β h = .pointer (some ⟨b,0,none⟩)):pv = .pointer none \/ pv = .pointer (some ⟨b,0,none⟩):=by
 unfold AV.selfOk at hself;split at hself
 ·cases r1; exact .inl rfl
 ·rename_i g;have e:g=h:=by simpa using hself
  subst e;cases r1 with
  | slf h2 _ =>
   rcases h2 with h2 | ⟨_,b',h2,h3⟩
   ·exact .inl h2
   ·rw [q1] at h2; cases h2; exact .inr h3
 ·rename_i g;have e:g=h:=by simpa using hself
  subst e;cases r1 with
  | ptr _ h2 _=>rw [q1] at h2; cases h2; exact .inr rfl
 ·cases hself
theorem Dt {w c s a β fp h k rows v e R dp} (S:SatI c s a w β fp) (hm:s.m h=some (.own e k dp R)) (hr:RelL w s.m β c [.own h k rows] [v]):∃ ao n cp,v = .slice ao n cp:=by
 cases hr with
 | own _ _ h3 _ =>
  obtain ⟨rfl,_⟩:=h3 _ _ _ _ hm;obtain ⟨_,_,h4⟩:=S.mem h _ hm;rcases h4 with ⟨q1,_⟩ | ⟨b,cap,cs,f0,q1,_⟩
  ·exact ⟨_,_,_,q1⟩
  ·exact ⟨_,_,_,q1⟩
theorem OR {w c s a β fp e k y v hb R dp} (S:SatI c s a w β fp) (hy:y.base s.m e k=some (hb,R,dp)) (hr:RelL w s.m β c [y] [v]):∃ ao n cp,v = .slice ao n cp:=by
 cases y <;> simp only [AV.base] at hy <;> try (cases hy; done)
 ·cases hr with
  | nil _=>exact ⟨_,_,_,rfl⟩
 ·split at hy
  ·rename_i e' k' dp' R' hm;split at hy
   ·rename_i hek;obtain ⟨rfl,rfl⟩:=hek;cases hr with
    | own h1 h2 h3 h4 =>
     obtain ⟨_,rfl⟩:=h3 _ _ _ _ hm;exact Dt S hm (.own h1 h2 h3 h4)
   ·cases hy
  ·cases hy
section
variable {P:Program} {T:Nat->Option TI} (hT:∀ t ti,T t=some ti->TOk P t ti) {c:Cx} {s:St} {a:Act} {w:World} {β:Nat->Value} {fp:Nat->List (Nat × Nat)} (S:SatI c s a w β fp)
include hT S
theorem EO {t t9 d ty:Nat} {ts te:TI} {y:AV} {v:Value} {hb R} (q:List UInt8) (hts:T t=some ts) (hte:T ts.elem=some te) (hk1:te.cells.length=1) (he:bi T t ≠ 0) (hu9:P.underlying t9=some .string)
  (hx:RelL w s.m β c [y] [v]) (hbase:y.base s.m ts.elem te.cells.length=some (hb,R,true)) (hsz:jF te R (rowsOf q)) (hd:s.m d=none) :
  ∃ v' w' β' fp',(Builtin.append_ #[t,t9] ty #[v,.string ⟨q.toArray⟩]).run P w = .ok v' w'/\SatI c ⟨s.e,rm s.m hb d (.own ts.elem te.cells.length true (R++rowsOf q))⟩ a w' β' fp' /\
   RelL w' (rm s.m hb d (.own ts.elem te.cells.length true (R++rowsOf q))) β' c [.own d te.cells.length (R++rowsOf q)] [v']:=by
 have hk:=(hT _ _ hte).pos;obtain ⟨bo,cap,cs,f0,B,hR0,hf0,hf1,hdead,hbo,hhb⟩:=o6 S hx hbase hk;have hother:∀ h blk,s.m h=some blk->h ∉ hb -> ∀ b,bo=some b->b ∉ Ob β h (fp h) blk:=by
  intro q blk hm hh b hb' hx;obtain ⟨g,hgb,n0,c0,hg⟩:=hbo b hb';obtain ⟨d',hgm⟩:=hdead g (by rw [hgb]; simp)
  exact S.disj g q _ _ hgm hm (by intro e; subst e; exact hh (by rw [hgb]; simp)) b (by simp [Ob,hg]) hx
 have hnb0:∀ z ∈ f0,∀ b,bo=some b->z.1 ≠ b:=by
  intro z hz b hb' e;obtain ⟨g,hg,hfg⟩:=hf0 rfl z hz;obtain ⟨g',rfl,n0,c0,hgv⟩:=hbo b hb';simp only [List.mem_singleton] at hg;subst hg;obtain ⟨d',hgm⟩:=hdead g (by simp)
  have hnd:=S.nodup g _ hgm;simp only [Ob,hgv,List.cons_append,List.nil_append,List.nodup_cons,List.mem_map,not_exists,not_and] at hnd;exact hnd.1 z (by rw [hfg]; exact hz) e
 have hnd0:(f0.map (·.1)).Nodup:=by
  by_cases he:f0=[]
  ·subst he; simp
  ·obtain ⟨z,hz⟩:=List.exists_mem_of_ne_nil f0 he;obtain ⟨g,hg,hfg⟩:=hf0 rfl z hz;obtain ⟨d',hgm⟩:=hdead g hg;have:=S.nodup g _ hgm;simp only [Ob] at this;rw [<- hfg];exact (List.nodup_append.1 this).2.1
 have hfr0:∀ z ∈ f0,∃ h ∈ hb,∃ blk,s.m h=some blk/\z.1 ∈ Ob β h (fp h) blk:=by
  intro z hz;obtain ⟨g,hg,hfg⟩:=hf0 rfl z hz;obtain ⟨d',hgm⟩:=hdead g hg;exact ⟨g,hg,_,hgm,by simp only [Ob,List.mem_append,List.mem_map]; exact .inr ⟨z,by rw [hfg]; exact hz,rfl⟩⟩
 have hbo':∀ b,bo=some b -> ∃ h ∈ hb,∃ e0 d0 n0 c0,s.m h=some (.own e0 te.cells.length d0 R) /\ β h = .slice (some ⟨b,0,none⟩) n0 c0:=by
  intro b hb';obtain ⟨g,rfl,n0,c0,hg⟩:=hbo b hb';obtain ⟨d',hgm⟩:=hdead g (by simp)
  exact ⟨g,by simp,_,d',n0,c0,hgm,hg⟩
 have hdead':∀ h ∈ hb,∃ e k d R,s.m h=some (.own e k d R):=fun h hh=>by obtain ⟨d',q⟩:=hdead h hh; exact ⟨_,_,_,_,q⟩
 have hsrc:Src P te.cells.length t9 (.string ⟨q.toArray⟩) (rowsOf q).length (byteCells ⟨q.toArray⟩) w:=by
  rw [hk1,C7];exact Src.ofString w hu9 ⟨q.toArray⟩
 exact oX hT S (f':=f0) (F:=f0) (dp:=true) (hs:=hb) (ty:=ty) hts hte he B hsrc (by rw [hk1]; exact Oe q) hsz (by
  have:=hR0.append (Of w q)
  simpa using this) (fun _=>⟨rfl,hnb0⟩) (by simp) hd hdead' hbo' hnd0 hfr0 hother
end
section
variable {P:Program} {T:Nat->Option TI} (hT:∀ t ti,T t=some ti->TOk P t ti) {c:Cx} {s:St} {a:Act} {w:World} {β:Nat->Value} {fp:Nat->List (Nat × Nat)} (S:SatI c s a w β fp)
include hT S
theorem QJ {f tB t t9 d K} {x y:Operand} (W:x0 P f tB t t9) (hx:s.cond x=true) (hy:s.cond y=true) (h:wrK T tB t d s (s.val x) (s.val y) K) :
  ∃ v w' av m β' fp',Calls P f #[a.eval x,a.eval y] w (fun e w''=>e = .returned v/\w''=w')/\K av m/\SatI c ⟨s.e,m⟩ a w' β' fp'/\RelL w' m β' c [av] [v]:=by
 have rx:=S.val hx;have ry:=S.val hy;unfold wrK at h;split at h
 ·rename_i hh q hvx hvy;rw [hvx] at rx;rw [hvy] at ry;split at h
  ·rename_i ty bx bf ts hm hts;split at h
   ·rename_i te hte;split at h
    ·rename_i hb R hbase;obtain ⟨⟨rfl,hk1,he,hself,hd⟩,hsz,hK⟩:=h;obtain ⟨_,b,cvs,q1,q2,q3,q4⟩:=S.mem hh _ hm;obtain ⟨pv,cv1,rfl,r1,r2⟩:=q3.uncons;obtain ⟨v,cv2,rfl,r3,r4⟩:=r2.uncons;cases r4;generalize hex:a.eval x=vx at rx;generalize hey:a.eval y=vy at ry;have e1:vx = .pointer (some ⟨b,0,none⟩):=by
      cases rx with
      | ptr _ h2 _=>rw [q1] at h2; cases h2; rfl
     have e2:vy = .string ⟨q.toArray⟩:=by cases ry; rfl
     subst e1 e2;have hpv:pv = .pointer none \/ pv = .pointer (some ⟨b,0,none⟩):=Ow hself r1 q1;have rnew:RelL w s.m β c [.ptr hh 0,bf] [.pointer (some ⟨b,0,none⟩),v]:=(RelL.ptr (by rw [hm]; rfl) q1 .lnil).append r3
     have o4:∀ u ∈ ([.pointer (some ⟨b,0,none⟩),v]:List Value),u.oneCell'=true:=by
      intro u hu;simp only [List.mem_cons,List.not_mem_nil,or_false] at hu;rcases hu with rfl | rfl
      ·rfl
      ·exact q4 _ (by simp)
     obtain ⟨w1,hw1,hb1,S1⟩:∃ w1,((pv = .pointer none/\w1=w.setCell ⟨b,0,none⟩ (.pointer (some ⟨b,0,none⟩))) \/ (pv = .pointer (some ⟨b,0,none⟩)/\w1=w))/\w1.heap[b]? = some (.cells #[.pointer (some ⟨b,0,none⟩),v] ty (0,0)) /\
       SatI c ⟨s.e,upd s.m hh (some (.box ty [.ptr hh 0,bf]))⟩ a w1 β fp:=by
      rcases hpv with rfl | rfl
      ·obtain ⟨z1,z2,z3,z4,z5,z6⟩:=fT b [.pointer (some ⟨b,0,none⟩)] 0 w [.pointer none,v] ty (0,0) q2 (by simp)
       have z0:w.setCells b 0 [.pointer (some ⟨b,0,none⟩)]=w.setCell ⟨b,0,none⟩ (.pointer (some ⟨b,0,none⟩)):=rfl;rw [z0] at z1 z2 z3 z4 z5 z6;exact ⟨_,.inl ⟨rfl,rfl⟩,by simpa using z1,S.setBox hm q1 (cvs':=[.pointer (some ⟨b,0,none⟩),v]) (by simpa using z1) z2 z3 z4 z5 z6 rnew o4⟩
      ·exact ⟨w,.inr ⟨rfl,rfl⟩,q2,S.setBox hm q1 (cvs':=[.pointer (some ⟨b,0,none⟩),v]) q2 (fun _ _=>rfl) rfl rfl rfl rfl rnew o4⟩
     have hbase1:bf.base (upd s.m hh (some (.box ty [.ptr hh 0,bf]))) ts.elem te.cells.length=some (hb,R,true):=Fu hm hbase;have hm1:(upd s.m hh (some (.box ty [.ptr hh 0,bf]))) hh=some (.box ty [.ptr hh 0,bf]):=upd_same _ _ _;have rv1:RelL w1 (upd s.m hh (some (.box ty [.ptr hh 0,bf]))) β c [bf] [v]:=by
      obtain ⟨_,b',cvs',y1,y2,y3,y4⟩:=S1.mem hh _ hm1;rw [q1] at y1;cases y1;rw [hb1] at y2;have:cvs'=[.pointer (some ⟨b,0,none⟩),v]:=by
       have:=Option.some.inj y2;simp only [Obj.cells.injEq] at this;have h3:=congrArg Array.toList this.1
       simpa using h3.symm
      subst this;obtain ⟨u,us,hu,_,y5⟩:=y3.uncons;cases hu;exact y5
     have hne:hh ≠ d:=by intro e; subst e; rw [hm] at hd; cases hd
     have hd1:(upd s.m hh (some (.box ty [.ptr hh 0,bf]))) d=none:=by rw [upd_ne _ _ (Ne.symm hne)]; exact hd
     obtain ⟨v',w2,β2,fp2,g1,g2,g3⟩:=EO hT S1 (ty:=t) (d:=d) q hts hte hk1 he W.1 rv1 hbase1 hsz hd1;have hnin:hh ∉ hb:=by
      intro hc;obtain ⟨_,_,_,_,_,_,_,_,hdead,_⟩:=o6 S r3 hbase (hT _ _ hte).pos;obtain ⟨d',hq⟩:=hdead hh hc;rw [hm] at hq; cases hq
     have hm2:rm (upd s.m hh (some (.box ty [.ptr hh 0,bf]))) hb d (.own ts.elem te.cells.length true (R++rowsOf q)) hh=some (.box ty [.ptr hh 0,bf]):=by
      unfold rm;rw [upd_ne _ _ hne,dD hnin]; exact hm1
     have hmd:rm (upd s.m hh (some (.box ty [.ptr hh 0,bf]))) hb d (.own ts.elem te.cells.length true (R++rowsOf q)) d=some (.own ts.elem te.cells.length true (R++rowsOf q)):=upd_same _ _ _;have rx2:=g2.val (x:=x) hx;have hβ2:β2 hh = .pointer (some ⟨b,0,none⟩):=by
      have:RelL w2 (rm (upd s.m hh (some (.box ty [.ptr hh 0,bf]))) hb d (.own ts.elem te.cells.length true (R++rowsOf q))) β2 c [.ptr hh 0] [.pointer (some ⟨b,0,none⟩)]:=by
       have e:(⟨s.e,rm (upd s.m hh (some (.box ty [.ptr hh 0,bf]))) hb d (.own ts.elem te.cells.length true (R++rowsOf q))⟩:St).val x=s.val x:=rfl;rw [e,hvx,hex] at rx2;exact rx2
      cases this with
      | ptr _ h2 _=>exact h2
     obtain ⟨_,b2,cvs2,y1,y2,y3,y4⟩:=g2.mem hh _ hm2;rw [hβ2] at y1;cases y1;obtain ⟨u0,us,rfl,u1,u2⟩:=y3.uncons;obtain ⟨v2,us2,rfl,u3,u4⟩:=u2.uncons;cases u4;have eu0:u0 = .pointer (some ⟨b,0,none⟩):=by
      cases u1 with
      | ptr _ h2 _=>rw [hβ2] at h2; cases h2; rfl
     subst eu0;have hsv:=OR S hbase r3;have hsv':=Dt g2 hmd g3;have hcall:=W.2 w w1 w2 b pv v v' v2 ⟨q.toArray⟩ q2 hw1 hb1 g1 y2 hsv hsv';obtain ⟨z1,z2,z3,z4,z5,z6⟩:=fT b [v'] 1 w2 [.pointer (some ⟨b,0,none⟩),v2] ty (0,0) y2 (by simp)
     have z0:w2.setCells b 1 [v']=w2.setCell ⟨b,1,none⟩ v':=rfl;rw [z0] at z1 z2 z3 z4 z5 z6;have hov':v'.oneCell'=true:=by obtain ⟨_,_,_,rfl⟩:=hsv'; rfl
     have S3:=g2.setBox hm2 hβ2 (us':=[.slf hh,.own d te.cells.length (R++rowsOf q)]) (cvs':=[.pointer (some ⟨b,0,none⟩),v']) (by simpa using z1) z2 z3 z4 z5 z6
      ((RelL.slf (.inr ⟨Option.isSome_iff_exists.2 ⟨_,hm2⟩,b,hβ2,rfl⟩) .lnil).append g3) (by
       intro u hu;simp only [List.mem_cons,List.not_mem_nil,or_false] at hu;rcases hu with rfl | rfl
       ·rfl
       ·exact hov')
     have em:upd (rm (upd s.m hh (some (.box ty [.ptr hh 0,bf]))) hb d (.own ts.elem te.cells.length true (R++rowsOf q))) hh (some (.box ty [.slf hh,.own d te.cells.length (R++rowsOf q)])) =
       upd (rm s.m hb d (.own ts.elem te.cells.length true (R++rowsOf q))) hh (some (.box ty [.slf hh,.own d te.cells.length (R++rowsOf q)])):=by
      funext g
      by_cases e1:g=hh
      ·subst e1; rw [upd_same,upd_same]
      ·rw [upd_ne _ _ e1,upd_ne _ _ e1];unfold rm;by_cases e2:g=d
       ·subst e2; rw [upd_same,upd_same]
       ·rw [upd_ne _ _ e2,upd_ne _ _ e2];by_cases e3:g ∈ hb
        ·rw [eE e3,eE e3]
        ·rw [dD e3,dD e3,upd_ne _ _ e1]
     rw [em] at S3;refine ⟨_,_,_,_,β2,fp2,hcall,hK,S3,?_⟩;have:((⟨q.toArray⟩:ByteArray).size:Int)=q.length:=rfl;rw [this];exact .tup (us:=[.int .i64 q.length,.nilIface]) (.int (.junk .lnil)) .lnil
    ·exact h.elim
   ·exact h.elim
  ·exact h.elim
 ·exact h.elim
theorem O3 {f tB te d K} {x:Operand} (W:xZ P f tB te) (hx:s.cond x=true) (h:stK tB te d s (s.val x) K) :
  ∃ v av m,Calls P f #[a.eval x] w (fun e w''=>∃ β' fp',e = .returned v/\SatI c ⟨s.e,m⟩ a w'' β' fp'/\RelL w'' m β' c [av] [v])/\K av m:=by
 have rx:=S.val hx;unfold stK at h;split at h
 ·rename_i hh hvx;rw [hvx] at rx;split at h
  ·rename_i ty bx bf hm;split at h
   ·rename_i hb R hbase;obtain ⟨⟨rfl,hd⟩,l,rfl,hK⟩:=h;obtain ⟨_,b,cvs,q1,q2,q3,q4⟩:=S.mem hh _ hm;obtain ⟨pv,cv1,rfl,r1,r2⟩:=q3.uncons;obtain ⟨v,cv2,rfl,r3,r4⟩:=r2.uncons;cases r4;generalize hex:a.eval x=vx at rx;have e1:vx = .pointer (some ⟨b,0,none⟩):=by
     cases rx with
     | ptr _ h2 _=>rw [q1] at h2; cases h2; rfl
    subst e1;obtain ⟨bo,cap,cs,f0,B,hR0,hf0,hf1,hdead,hbo,hhb⟩:=o6 S r3 hbase (by decide)
    have hlen:(rowsOf l).length=l.length:=C7 l;have hlm:l.length<=maxLen:=by have:=B.le; have:=B.max; omega
    have hv:=B.val;have hcell:∀ (j:Nat) z,l[j]? = some z->cs[j]? = some (.int .u8 z.toNat):=by
     intro j z hz;have h1:∀ {ds vs f},RdL true w ds vs f -> ∀ (l:List UInt8),ds=(l.map fun b=>D.int .u8 b.toNat)->vs=l.map fun b=>Value.int .u8 b.toNat:=by
      intro ds vs f hr
      induction hr with
      | nil=>intro l e; cases l with | nil=>rfl | cons=>cases e
      | int _ ih =>
       intro l e;cases l with
       | nil=>cases e
       | cons b l =>
        simp only [List.map_cons,List.cons.injEq,D.int.injEq] at e;obtain ⟨⟨rfl,rfl⟩,e2⟩:=e;rw [ih l e2]; rfl
      | _=>intro l e; cases l <;> simp at e
     have h2:=h1 hR0 l (C6 l);have h3:(cs.toList.take ((rowsOf l).length * 1))[j]? = some (.int .u8 z.toNat):=by rw [h2]; simp [hz]
     rw [List.getElem?_take] at h3;split at h3
     ·simpa using h3
     ·cases h3
    have hcall:=W w b pv v l q2 (by
     cases bo with
     | none =>
      have h0:=B.nil rfl;have h1:=B.le;have:l.length=0:=by omega
      have hl:l=[]:=List.length_eq_zero_iff.1 this;subst hl;exact .inl ⟨by rw [hv,h0]; rfl,rfl⟩
     | some g =>
      refine .inr ⟨g,cap,cs,by rw [hv,hlen]; rfl,B.blk g rfl,?_,?_,B.max,hcell⟩
      ·have:=B.size; have:=B.le; omega
      ·have:=B.le; omega)
    have hob:∀ g,bo=some g -> ∃ h,hb=[h] /\ ∃ n0 c0,β h = .slice (some ⟨g,0,none⟩) n0 c0 /\ ∃ d',s.m h=some (.own te 1 d' (rowsOf l)):=fun g hg=>by
     obtain ⟨h,rfl,n0,c0,e⟩:=hbo g hg;obtain ⟨d',e2⟩:=hdead h (by simp)
     exact ⟨h,rfl,n0,c0,e,d',e2⟩
    have hvb:∀ x n cap,v = .slice (some ⟨x,0,none⟩) n cap->bo=some x:=by
     intro x n cap' e;rw [hv] at e;cases bo with
     | none=>cases e
     | some g=>simp only [Option.map_some,Value.slice.injEq,Option.some.injEq,Addr.mk.injEq] at e; rw [e.1.1]
    refine ⟨.string ⟨l.toArray⟩,.str l,_,hcall.mono ?_,hK⟩;rintro e w' ⟨rfl,hsz,hos,htp,hout,hblk⟩;have hsame:∀ y,y < w.heap.size->(∀ g,bo=some g->y ≠ g)->w'.heap[y]? = w.heap[y]?:=fun y hy hne=>by
     rcases hblk y hy with h | ⟨n,cp,cs',fr,h1,h2,h3⟩
     ·exact h
     ·exact absurd rfl (hne y (hvb y n cp h1))
    have hoth:∀ h blk,s.m h=some blk->h ∉ hb -> ∀ y ∈ Ob β h (fp h) blk,∀ g,bo=some g->y ≠ g:=fun h blk hmh hn y hy g hg e=>by
     subst e;obtain ⟨h',rfl,n0,c0,e1,d',e2⟩:=hob y hg;exact S.disj h' h _ _ e2 hmh (fun e=>hn (by simp [e])) y (by simp [Ob,e1]) hy
    have C:Regrow c s w β fp w' d hb te 1 true [] (.slice none 0 0) []:=by
     refine ⟨hd,fun h hh=>(by obtain ⟨d',q⟩:=hdead h hh; rw [q]; rfl),fun h hh ty vs e=>(by obtain ⟨d',q⟩:=hdead h hh; rw [q] at e; cases e),fun y hy hl=>?_,fun h blk hmh hn y hy=>?_,fun y hG=>?_,hsz,hos,htp,hout,fun b n cc e=>(by cases e),⟨by decide,by simp,.inl ⟨upd_same _ _ _,rfl,rfl⟩⟩,by simp [Ob,upd_same],by simp [Ob,upd_same]⟩
     ·rcases hblk y.1 hy with h | ⟨n,cp,cs',fr,h1,h2,h3⟩
      ·exact .of_same h
      ·intro cs1 ty1 fr1 hc;rw [h2] at hc;cases hc;exact ⟨_,_,_,h3,fun _ _=>rfl⟩
     ·exact hsame y ((S.mem h blk hmh).lt y hy) (hoth h blk hmh hn y hy)
     ·refine hsame y (Nat.lt_of_lt_of_le (S.old y hG).1 S.size) fun g hg e=>?_;subst e;obtain ⟨h',rfl,n0,c0,e1,d',e2⟩:=hob y hg;exact S.free h' _ e2 y (by simp [Ob,e1]) hG
    exact ⟨_,_,rfl,C.sat S,.str hlm .lnil⟩
   ·exact h.elim
  ·exact h.elim
 ·exact h.elim
end
def mA (T:Nat->Option TI) (t:Nat) (s:St) (h i j l off k:Nat) (rows:List (List D)) (x:AV) (K:St->Prop):Prop :=
 match s.m h with
 | some (.own e k0 true R)=>match (R.getD i [])[j]? with
  | some (.sl e1 kk rows1)=>(i < R.length/\0 < kk/\s.m 7=none/\kk=k/\rows1=rows/\l < rows.length) /\ ∀ v0:Value,
    j7 T t (s.wipe (cG s.m h e k0 R i j (.raw v0) 7 e1 kk rows1)) 7 l off (x.wipe (cG s.m h e k0 R i j (.raw v0) 7 e1 kk rows1)) fun s' =>
     s'.m h=some (.own e k0 true (setRow k0 R i j [.raw v0]))/\match s'.m 7 with
      | some (.own e2 k2 true rows2)=>K (s'.wipe (eo s'.m h e k0 R i j 7 e2 k2 rows2))
      | _=>False
  | _=>False
 | _=>False
section
variable {P:Program} {T:Nat->Option TI} (hT:∀ t ti,T t=some ti->TOk P t ti) {w:World} {c:Cx} {s:St} {a:Act} {β:Nat->Value} {fp:Nat->List (Nat × Nat)}
 (S:SatI c s a w β fp)
include hT S in
theorem Nx {t h i j l off k rows x v K p} (hp:RelL w s.m β c [.sptr h i j l off k rows] [p]) (hx:RelL w s.m β c [x] [v]) (hk:mA T t s h i j l off k rows x K) :
  ∃ w' s',(Instr.storeAt t p v).run P w = .ok () w'/\K s'/\Sat c s' a w':=by
 unfold mA at hk;split at hk
 ·rename_i e k0 R hm;split at hk
  ·rename_i e1 kk rows1 hj;obtain ⟨⟨hi,hkk,hg,he1,he2,hl⟩,hk⟩:=hk;subst he1 he2;obtain ⟨v0,fp1,hcell,hone,C1⟩:=xC S hm hi hj hkk hg;have C1:=C1 (.raw v0) (.raw hone .nil);have S1:=C1.sat S;have hgh:7 ≠ h:=by rintro e; rw [<- e,hg] at hm; cases hm
   obtain ⟨hk0,hR,_⟩:=S.mem h _ hm;have hjk:j < k0:=by
    have h1:=(List.getElem?_eq_some_iff.1 hj).1;have hl':(R.getD i []).length=k0:=by
     rw [List.getD_eq_getElem?_getD,List.getElem?_eq_getElem hi];exact hR _ (List.getElem_mem hi)
    omega
   have hwg:(s.wipe (cG s.m h e k0 R i j (.raw v0) 7 e1 kk rows1)).m 7=some (.own e1 kk true rows1):=by simp [St.wipe,wm,Blk.wipe]
   cases hp with
   | @sptr _ _ _ _ _ _ _ ad _ _ _ _ h3 _ =>
    have hj2:R[i]? = some (R.getD i []):=by rw [List.getD_eq_getElem?_getD,List.getElem?_eq_getElem hi]; rfl
    obtain ⟨b2,o2,n2,c2,hc2,had⟩:=h3 _ _ _ _ _ _ hm hj2 hj hl;obtain ⟨bA,nA,cA,z1,z2⟩:=hc2;obtain ⟨bB,nB,cB,z3,z4⟩:=hcell;rw [z1] at z3;cases z3;rw [z2] at z4;have hv0:=(Option.some.inj z4).symm;have hq:∀ e' k' d R',(s.wipe (cG s.m h e k0 R i j (.raw v0) 7 e1 kk rows1)).m 7=some (.own e' k' d R')->l < R'.length ->
      ∃ b n c,(upd β 7 v0) 7 = .slice (some ⟨b,0,none⟩) n c/\ad=⟨b,l * k'+off,none⟩:=by
     intro e' k' d R' hm' hl;rw [hwg] at hm';cases hm';obtain ⟨_,_,h9⟩:=S1.mem 7 _ hwg;rcases h9 with ⟨_,y2,_⟩ | ⟨b,cap,cs,f0,y1,_⟩
     ·subst y2; simp at hl
     ·rw [upd_same,hv0] at y1;cases y1;exact ⟨_,_,_,by rw [upd_same,hv0],by rw [had]; simp⟩
    obtain ⟨w',s',fp',r1,r2,S2⟩:=CO hT S1 hq (C1.rel S hx) (hk v0);obtain ⟨hk1,hk2⟩:=r2;split at hk2
    ·rename_i e2 k2 rows2 hm2;obtain ⟨p1,p2,p3⟩:=Dr (y:=.raw v0) (z:=.sl e2 k2 rows2) hR hi hjk;obtain ⟨fp2,C2⟩:=Bu S2 hk1 p1 p2 hm2 (upd_same _ _ _) hgh;have e3:eo s'.m h e k0 (setRow k0 R i j [.raw v0]) i j 7 e2 k2 rows2=eo s'.m h e k0 R i j 7 e2 k2 rows2:=by simp only [eo,p3]
     rw [e3] at C2;exact ⟨w',_,r1,hk2,_,_,C2.sat S2⟩
    ·exact hk2.elim
  ·exact hk.elim
 ·exact hk.elim
end
def St.set (s:St) (o:Oper) (g:Bool) (av:AV) (m:Nat->Option Blk):St:=⟨match o.dst with | some t=>upd s.e t (some (g,av)) | none=>s.e,m⟩
def pc (T:Nat->Option TI) (bd:Nat × Nat × Nat × Nat) (d:Nat) (s:St) (args:List Operand) (caps:List AV) (K:AV->(Nat->Option Blk)->Prop):Prop :=
 match bd,args,caps with
 | (1,tB,t,_),[x,y],[]=>s.cond x=true/\s.cond y=true/\wrK T tB t d s (s.val x) (s.val y) K
 | (2,tB,te,_),[x],[]=>s.cond x=true/\stK tB te d s (s.val x) K
 | _,_,_=>False
def zAV (T:Nat->Option TI) (t:Nat):AV:=match T t with
 | some ti=>match ti.cells with
  | [k]=>k.zeroAV
  | _=>.nil
 | none=>.nil
theorem QM (T:Nat->Option TI) (t:Nat):(zAV T t).hs=[]:=by
 unfold zAV;split
 ·split
  ·rename_i k _; cases k <;> rfl
  ·rfl
 ·rfl
def x6 (k:Con) (z:AV) (w:Option Bool) (n:Nat) (o:Oper) (us:List AV) (conds:Bool) (s:St) (K:St->Prop):Prop:=match w with
 | some g=>cW n o=true/\(g=true->fZ k false true (Oper.hnd o) us conds s fun av m=>K (s.set o true av m))/\(g=false->K (s.set o false z s.m))
 | none=>False
def bY (T:Nat->Option TI) (cs:Nat->Option Con) (n:Nat) (ops:Array Oper) (o:Oper) (s:St) (K:St->Prop):Prop :=
 match o.op with
 | .store t p x=>o.guard=none/\o.dst=none/\s.cond p=true/\s.cond x=true/\match s.val p with
  | .ptr h off=>j5 T t s h off (s.val x) K
  | .eptr h i off _=>j7 T t s h i off (s.val x) K
  | .sptr h i j l off k rows=>mA T t s h i j l off k rows (s.val x) K
  | _=>False
 | .buildSlice t len parts=>o.guard=none/\cW n o=true/\gV T t len parts.toList (Oper.hnd o) s fun av m=>K (s.set o true av m)
 | .call { callee:=.builtin .append,args,argTypes }=>match args.toList,argTypes.toList with
  | [x,y],[t,t2]=>o.guard=none/\cW n o=true/\s.cond x=true/\s.cond y=true/\fy T t t2 (Oper.hnd o) s (s.val x) (s.val y) fun av m=>K (s.set o true av m)
  | _,_=>False
 | .call { callee:=.value fv,args,.. }=>match s.fn fv with
  | none=>False
  | some (f,caps)=>match cs f with
   | none=>False
   | some k=>if k.mv then if k.bld.1 ≠ 0 then o.guard=none/\cW n o=true/\s.cond fv=true/\pc T k.bld (Oper.hnd o) s args.toList caps (fun av m=>K (s.set o true av m))
    else if (k.nob || k.bld.2.1 == 0)=true then o.guard=none/\cW n o=true/\gS k (Oper.hnd o) (args.toList.map s.val++caps) (args.toList.all s.cond && s.cond fv) s fun av s'=>K (s'.set o true av s'.m)
    else x6 k (zAV T o.type) (cS ops o s) n o (args.toList.map s.val++caps) (args.toList.all s.cond && s.cond fv) s K
    else lC cs n ops o s K
 | _=>False
theorem oK {o:Oper} {f} (h:o.guard=none):Region.wanted o f=true:=by simp [Region.wanted,h]
theorem kL {n o} (h:cW n o=true):∀ t,o.dst=some t->t < n:=by
 intro t ht;unfold cW at h;rw [ht] at h
 simpa using h
theorem lD {P:Program} {T:Nat->Option TI} (hT:∀ t ti,T t=some ti->TOk P t ti) {cs:Nat->Option Con} (hcs:∀ f k,cs f=some k->Has P f k) {c:Cx} (hkn:∀ f k,cs f=some k->Kn k.need c) {ops o s K a w}
  {next:Act->World->Prop} {Q:Exit->Act->World->Prop} (h:bY T cs c.n ops o s K) (S0:Sat c s a w) (hK:∀ s' a' w',K s'->Sat c s' a' w'->next a' w') :
  if Region.wanted o (yielded ops a.tmps) then o.wp P a w next Q else next (a.put o.dst undef) w:=by
 have S00:=S0;obtain ⟨β,fp,S⟩:=S0;unfold bY at h;split at h
 ·rename_i t p x hop;obtain ⟨h1,h2,h3,h4,h5⟩:=h;rw [oK h1];simp only [if_true];have fin:∀ w' s',(Instr.storeAt t (a.eval p) (a.eval x)).run P w = .ok () w'->K s'->Sat c s' a w'->o.wp P a w next Q:=by
   intro w' s' e q1 q2;unfold Oper.wp;have hrun:(execOp a.eval o).run P w = .ok .skip w':=by simp [execOp,hop,e]
   rw [hrun,Oper.upon_skip,h2];exact hK _ _ _ q1 q2
  have hp:=S.val h3;split at h5
  ·rename_i hh off hv;rw [hv] at hp;obtain ⟨w',s',e,q1,q2⟩:=M7 hT S hp (S.val h4) h5;exact fin w' s' e q1 ⟨_,_,q2⟩
  ·rename_i hh i off ds hv;rw [hv] at hp;obtain ⟨w',s',e,q1,q2⟩:=Nm hT S hp (S.val h4) h5;exact fin w' s' e q1 q2
  ·rename_i hh i j l off k rows hv;rw [hv] at hp;obtain ⟨w',s',e,q1,q2⟩:=Nx hT S hp (S.val h4) h5;exact fin w' s' e q1 q2
  ·exact h5.elim
 ·rename_i t len parts hop;obtain ⟨h1,h2,h3⟩:=h;rw [oK h1];simp only [if_true];obtain ⟨v,w',av,m,β',fp',q1,q2,q3,q4⟩:=FW hT S h3;unfold Oper.wp;have hrun:(execOp a.eval o).run P w = .ok (.value v) w':=by simp [execOp,hop,q1]
  rw [hrun];exact hK _ _ _ q2 ⟨β',fp',q3.put (o:=o) (kL h2) (fun _=>q4) (by simp)⟩
 ·rename_i args argTypes hop;split at h
  ·rename_i x y t t2 hx ht;obtain ⟨h1,h2,h3,h4,h5⟩:=h;rw [oK h1];simp only [if_true];obtain ⟨v,w',av,m,β',fp',q1,q2,q3,q4⟩:=sq hT S (ty:=o.type) (S.val h3) (S.val h4) h5;unfold Oper.wp;have e1:args = #[x,y]:=by apply Array.ext'; simpa using hx
   have e2:argTypes = #[t,t2]:=by apply Array.ext'; simpa using ht
   have hrun:(execOp a.eval o).run P w = .ok (.value v) w':=by
    subst e1;subst e2;unfold execOp;simp only [hop,resolve,invoke,builtin,Sem.run_bind,Sem.run_pure,Result.andThen_ok,List.map_toArray,List.map_cons,List.map_nil,q1]
   rw [hrun];exact hK _ _ _ q2 ⟨β',fp',q3.put (o:=o) (kL h2) (fun _=>q4) (by simp)⟩
  ·exact h.elim
 ·rename_i fv args ats hop;split at h
  ·exact h.elim
  ·rename_i f caps hfn;split at h
   ·exact h.elim
   ·rename_i k hkf;split at h
    ·split at h
     ·obtain ⟨h1,h2,hcf,h3⟩:=h;rw [oK h1];simp only [if_true];have H:=hcs f k hkf;have HB:=H.bldr;have hrun:∀ us:List Value,caps=[]->args.toList.map a.eval=us->(execOp a.eval o).run P w = .ok (.enter f us.toArray) w:=by
       intro us hcp hus;obtain ⟨capv,hfv,hcaps⟩:∃ capv:List Value,a.eval fv = .func (.func f) #[] capv.toArray/\RelL w s.m β c caps capv:=by
        have hv:=S.val hcf;unfold St.fn at hfn;split at hfn
        ·rename_i f' vs' hval;cases hfn;rw [hval] at hv;generalize a.eval fv=u at hv;cases hv with
         | clo h1 _=>exact ⟨_,rfl,h1⟩
        ·cases hfn
       subst hcp;cases hcaps;have e:(args.map a.eval)++(#[]:Array Value)=us.toArray:=by apply Array.ext'; simp [<- hus]
       simp only [execOp,hop,resolve,hfv,Deferred.ofValue,Sem.run_bind,Sem.run_pure,Result.andThen_ok,invoke];rw [show (#[]++Array.map a.eval args++([]:List Value).toArray)=us.toArray from by rw [<- e]; simp,H.enter]
      unfold pc at h3;split at h3
      ·rename_i tB t t9 x y hbd hargs;rw [hbd] at HB;obtain ⟨hx,hy,h4⟩:=h3;obtain ⟨v,w',av,m,β',fp',q1,q2,q3,q4⟩:=QJ hT S HB hx hy h4;unfold Oper.wp;rw [hrun [a.eval x,a.eval y] rfl (by rw [hargs]; rfl),Oper.upon_enter]
       refine q1.mono ?_;rintro e w'' ⟨rfl,rfl⟩;exact hK _ _ _ q2 ⟨β',fp',q3.put (o:=o) (kL h2) (fun _=>q4) (by simp)⟩
      ·rename_i tB te t9 x hbd hargs;rw [hbd] at HB;obtain ⟨hx,h4⟩:=h3;obtain ⟨v,av,m,q1,q2⟩:=O3 hT S HB hx h4;unfold Oper.wp;rw [hrun [a.eval x] rfl (by rw [hargs]; rfl),Oper.upon_enter]
       refine q1.mono ?_;rintro e w'' ⟨β',fp',rfl,q3,q4⟩;exact hK _ _ _ q2 ⟨β',fp',q3.put (o:=o) (kL h2) (fun _=>q4) (by simp)⟩
      ·exact h3.elim
     have go:cW c.n o=true->gS k (Oper.hnd o) (args.toList.map s.val++caps) (args.toList.all s.cond && s.cond fv) s (fun av s'=>K (s'.set o true av s'.m))->o.wp P a w next Q:=fun h2 h3=>by
      have H:=hcs f k hkf;by_cases hcond:(args.toList.all s.cond && s.cond fv)=true
      ·have hcond':=hcond;simp only [Bool.and_eq_true] at hcond';obtain ⟨hc,hcf⟩:=hcond';obtain ⟨capv,hfv,hcaps⟩:∃ capv:List Value,a.eval fv = .func (.func f) #[] capv.toArray/\RelL w s.m β c caps capv:=by
        have hv:=S.val hcf;unfold St.fn at hfn;split at hfn
        ·rename_i f' vs' hval;cases hfn;rw [hval] at hv;generalize a.eval fv=u at hv;cases hv with
         | clo h1 _=>exact ⟨_,rfl,h1⟩
        ·cases hfn
       have hr:RelL w s.m β c (args.toList.map s.val++caps) (args.toList.map a.eval++capv):=(RelL.ofMap fun z hz=>S.val (List.all_eq_true.1 hc z hz)).append hcaps;have hcall:=D3 H (hkn f k hkf) S (fun _=>hr) h3;unfold Oper.wp;have hrun:(execOp a.eval o).run P w = .ok (.enter f (args.toList.map a.eval++capv).toArray) w:=by
        have e:(args.map a.eval)++capv.toArray=(args.toList.map a.eval++capv).toArray:=by apply Array.ext'; simp
        simp only [execOp,hop,resolve,hfv,Deferred.ofValue,Sem.run_bind,Sem.run_pure,Result.andThen_ok,invoke];rw [show (#[]++Array.map a.eval args++capv.toArray)=(args.toList.map a.eval++capv).toArray from by rw [<- e]; simp,H.enter]
       rw [hrun,Oper.upon_enter];refine hcall.mono ?_;rintro e w' ⟨v,av,s',rfl,q1,β',fp',q2,q3⟩;exact hK _ _ _ q1 ⟨β',fp',q2.put (o:=o) (kL h2) (fun _=>q3) (by simp)⟩
      ·exact absurd (D2 h3) hcond
     split at h
     ·obtain ⟨h1,h2,h3⟩:=h;rw [oK h1];simp only [if_true];exact go h2 h3
     ·unfold x6 at h;split at h
      ·rename_i g hg;obtain ⟨h1,h2,h3⟩:=h;rw [S.want hg];cases g with
       | true =>
        simp only [if_true];obtain ⟨x,h⟩:=h2 rfl;split at h
        ·exact h.elim
        rename_i A hA;split at h
        ·exact h.elim
        rename_i B hB;obtain ⟨hown0,hlend0,hAp,hBp,hB0,hok,hlen,hpre,hpost⟩:=h;have H:=hcs f k hkf;obtain ⟨hc,hp⟩:=hpre rfl;simp only [Bool.and_eq_true] at hc;obtain ⟨hc,hcf⟩:=hc;obtain ⟨capv,hfv,hcaps⟩:∃ capv:List Value,a.eval fv = .func (.func f) #[] capv.toArray/\RelL w s.m β c caps capv:=by
         have hv:=S.val hcf;unfold St.fn at hfn;split at hfn
         ·rename_i f' vs' hval;cases hfn;rw [hval] at hv;generalize a.eval fv=u at hv;cases hv with
          | clo h1 _=>exact ⟨_,rfl,h1⟩
         ·cases hfn
        have hr:RelL w s.m β c (args.toList.map s.val++caps) (args.toList.map a.eval++capv):=(RelL.ofMap fun z hz=>S.val (List.all_eq_true.1 hc z hz)).append hcaps;have hl2:=hr.length;obtain ⟨L,hL,E0⟩:=zH S hr hA hAp hB hBp hB0 hok (by rw [<- hl2]; exact hlen)
        have hl3:=Cz hA;have hcall:=H.calls x hp (dl w β A.hs k x L) ((hkn f k hkf).to (zd S hB hBp)) (args.toList.map a.eval++capv) (aI β A.hs) (fun _=>[]) rfl (by simp [Con.pins2,hlend0]) (by rw [<- hl2,<- hl3]) (by rw [<- hl2]; exact hlen) (by rw [Con.start2_eq k x hown0]; exact E0)
        unfold Oper.wp;have hrun:(execOp a.eval o).run P w = .ok (.enter f (args.toList.map a.eval++capv).toArray) w:=by
         have e:(args.map a.eval)++capv.toArray=(args.toList.map a.eval++capv).toArray:=by apply Array.ext'; simp
         simp only [execOp,hop,resolve,hfv,Deferred.ofValue,Sem.run_bind,Sem.run_pure,Result.andThen_ok,invoke];rw [show (#[]++Array.map a.eval args++capv.toArray)=(args.toList.map a.eval++capv).toArray from by rw [<- e]; simp,H.enter]
        rw [hrun,Oper.upon_enter];refine hcall.mono ?_;rintro e w' ⟨y,hy,v,rfl,β',fp',a',E,hv⟩;have hβ:∀ h,((k.start x).m h).isSome=true -> β' h=aI β A.hs h:=by
         intro h hh;obtain ⟨b,hb⟩:=Option.isSome_iff_exists.1 hh;have:=c8 hb;obtain ⟨bb,hbb,he⟩:=List.mem_map.1 this;cases he;exact (E.pin _ (List.mem_map.2 ⟨bb,hbb,rfl⟩)).1
        obtain ⟨q1,q2,q3,q4⟩:=hpost y hy;have hb:∀ i ∈ (k.boxes x).map (·.1),∃ h ty us,ai A.hs i=some h/\s.m h=some (.box ty us):=by
         intro i hi;obtain ⟨b,hbm,rfl⟩:=List.mem_map.1 hi;obtain ⟨_,_,b2⟩:=rk S hB hBp;obtain ⟨h,us,blk,cvs,r1,r2,_⟩:=b2 b hbm;exact ⟨h,_,us,r1,r2⟩
        have hX:=zI (kn:=k.kindly) S hL E hβ hb q2 q3;have hL':∀ z ∈ L,Lim s.m β z/\c.may false z/\z.1 < w.heap.size:=fun z hz=>⟨(hL z hz).1,Cx.mayO_false (hL z hz).2.1,(hL z hz).2.2⟩;have S':=Ba (X:=dm k.kindly s.m (A.ext && B.ext) A.ow) S hL' E hβ hb q2 q3 hX;have hv':=yA (X:=dm k.kindly s.m (A.ext && B.ext) A.ow) S hL' E hβ hb q2 q3 hX hv;exact hK _ _ _ q4 ⟨_,_,S'.put (o:=o) (kL h1) (fun _=>hv') (by simp)⟩
       | false =>
        simp only [Bool.false_eq_true,if_false];exact hK _ _ _ (h3 rfl) ⟨β,fp,S.put (o:=o) (kL h1) (by simp) (fun _=>⟨rfl,by intro h hh; rw [QM] at hh; cases hh⟩)⟩
      ·exact h.elim
    ·exact D8 hcs hkn h S00 hK
 ·exact h.elim
def mJ:List TK->List AV->Option (Nat × Nat × Nat × Nat × Nat × List (List D))
 | .sl e _ :: _,.sub h i j k rows :: _=>some (e,h,i,j,k,rows)
 | _ :: _,.sub _ _ _ _ _ :: _=>none
 | _ :: ks,_ :: vs=>mJ ks vs
 | _,_=>none
def AV.stolen (g:Nat) (v u:AV):AV:=match v,u with
 | .agg vs,.agg us=>.agg (jA g vs us)
 | .sub _ _ _ k rows,_=>.own g k rows
 | _,u=>u
def fV (te:TI) (t g:Nat) (s:St) (K:St->Prop):Prop:=match s.e t with
 | some (true,v)=>match mJ te.cells v.cells with
  | some (e',h,i,j,k,rows)=>match s.m h with
   | some (.own e k0 true R)=>(i < R.length/\(R.getD i [])[j]? = some (.sl e' k rows)/\0 < k/\s.m g=none) /\
     K ⟨upd (s.wipe (cG s.m h e k0 R i j .junk g e' k rows)).e t (some (true,v.stolen g (v.wipe (cG s.m h e k0 R i j .junk g e' k rows)))),(s.wipe (cG s.m h e k0 R i j .junk g e' k rows)).m⟩
   | _=>K s
  | none=>K s
 | _=>K s
theorem Pe:∀ {ks:List TK} {vs:List AV} {e h i j k rows},mJ ks vs=some (e,h,i,j,k,rows)->fu vs=some (h,i,j,k,rows):=by
 intro ks
 induction ks with
 | nil=>intro vs e h i j k rows hs; cases vs <;> cases hs
 | cons c ks ih =>
  intro vs e h i j k rows hs;cases vs with
  | nil=>cases c <;> cases hs
  | cons v vs =>
   cases v with
   | sub h' i' j' k' r' =>
    cases c with
    | sl e0 k0=>simp only [mJ,Option.some.injEq,Prod.mk.injEq] at hs; obtain ⟨_,rfl,rfl,rfl,rfl,rfl⟩:=hs; rfl
    | _=>cases hs
   | _ =>
    have:mJ ks vs=some (e,h,i,j,k,rows):=by cases c <;> exact hs
    have q:fu vs=some (h,i,j,k,rows):=ih this;exact q
section
variable {c:Cx} {s:St} {a:Act} {w:World}
theorem xD {te:TI} {t g:Nat} {K:St->Prop} (h:fV te t g s K) (S:Sat c s a w):∃ s',K s'/\Sat c s' a w:=by
 unfold fV at h;split at h
 ·rename_i v hv;split at h
  ·rename_i e' hh i j k rows hs;split at h
   ·rename_i e k0 R hm;obtain ⟨⟨hi,hj,hk,hg⟩,hK⟩:=h;obtain ⟨β,fp,S⟩:=S;obtain ⟨v0,fp1,hcell,hone,C1⟩:=xC S hm hi hj hk hg;have C1:=C1 .junk (.junk hone .nil);have S1:=C1.sat S;have hwg:wm (cG s.m hh e k0 R i j .junk g e' k rows) g=some (.own e' k true rows):=by simp [wm,Blk.wipe]
    have hmg:cG s.m hh e k0 R i j .junk g e' k rows g=some (.own e' k true rows):=by simp
    have hown:=iu (fps:=fp1) hwg (C1.ownOk S hmg) (C1.nodup' S hwg) (fun h' blk' hm' hne=>C1.disj' S hwg hm' (Ne.symm hne)) (C1.free' S hwg);rw [upd_same] at hown;have hsubv:∀ u,RelL w s.m β c [.sub hh i j k rows] [u]->u=v0:=by
     intro u hu;cases hu with
     | sub _ _ h3 _ =>
      have hj2:R[i]? = some (R.getD i []):=by rw [List.getD_eq_getElem?_getD,List.getElem?_eq_getElem hi]; rfl
      obtain ⟨b,n,cc,p1,p2⟩:=h3 _ _ _ _ _ _ hm hj2 hj;obtain ⟨b',n',cc',p3,p4⟩:=hcell;rw [p1] at p3;cases p3;rw [p2] at p4;exact Option.some.inj p4
    obtain ⟨q1,q2,_⟩:=S.env t true v hv;have hrel:=q2 rfl;have hfirst:=Pe hs;refine ⟨_,hK,upd β g v0,fp1,⟨?_,S1.mem,S1.nodup,S1.disj,S1.free,S1.fg,S1.old,S1.os,S1.tape,S1.output,S1.size,S1.defers,S1.tn,S1.pin⟩⟩;intro t' g' av ht';by_cases htt:t'=t
    ·subst htt;simp only [upd_same,Option.some.injEq,Prod.mk.injEq] at ht';obtain ⟨rfl,rfl⟩:=ht';refine ⟨q1,fun _=>?_,by simp⟩
     generalize a.tmps.getD t' undef=u at hrel;have key:∀ {xs:List AV} {ws:List Value},fu xs=some (hh,i,j,k,rows)->RelL w s.m β c xs ws->RelL w (s.wipe (cG s.m hh e k0 R i j .junk g e' k rows)).m (upd β g v0) c (jA g xs (xs.map (AV.wipe1 (cG s.m hh e k0 R i j .junk g e' k rows)))) ws:=by
      intro xs
      induction xs with
      | nil=>intro ws hs; cases hs
      | cons x xs ih =>
       intro ws hs hr;obtain ⟨y,ys,rfl,r1,r2⟩:=hr.uncons;cases x with
       | sub h' i' j' k' r' =>
        simp only [fu,Option.some.injEq,Prod.mk.injEq] at hs;obtain ⟨rfl,rfl,rfl,rfl,rfl⟩:=hs;have:=hsubv _ r1;subst this;exact hown.append (C1.rels1 S r2)
       | _=>exact (C1.rel1 S r1).append (ih hs r2)
     cases v with
     | agg xs =>
      cases hrel with
      | agg h1 h2 _=>exact .agg (key hfirst h1) h2 .lnil
     | sub h' i' j' k' r' =>
      have hsub:fu [AV.sub h' i' j' k' r']=some (hh,i,j,k,rows):=hfirst;simp only [fu,Option.some.injEq,Prod.mk.injEq] at hsub;obtain ⟨rfl,rfl,rfl,rfl,rfl⟩:=hsub;have:=hsubv _ hrel;subst this;exact hown
     | _=>cases hfirst
    ·have ht2:(s.wipe (cG s.m hh e k0 R i j .junk g e' k rows)).e t'=some (g',av):=by
      simpa [upd_ne _ _ htt] using ht'
     exact S1.env t' g' av ht2
   ·exact ⟨s,h,S⟩
  ·exact ⟨s,h,S⟩
 ·exact ⟨s,h,S⟩
end
def wa (te:TI) (t g:Nat) (K:St->Prop):St->Prop:=fun s=>fV te t g s K
def oE (te:TI):List Operand->Nat->(St->Prop)->St->Prop
 | [],_,K=>K
 | .tmp t :: r,g,K=>wa te t g (wa te t (g+1) (oE te r (g+2) K))
 | _ :: r,g,K=>oE te r g K
def lj (T:Nat->Option TI) (t d:Nat) (parts:List (Nat × Operand)) (K:St->Prop):St->Prop:=match T t with
 | some ts=>match T ts.elem with
  | some te=>oE te (parts.map (·.2)) (d+1) K
  | none=>K
 | none=>K
theorem O5 {te:TI} {c:Cx} {a:Act} {w:World}:∀ {l:List Operand} {g:Nat} {K:St->Prop} {s:St},oE te l g K s->Sat c s a w -> ∃ s',K s'/\Sat c s' a w:=by
 intro l
 induction l with
 | nil=>intro g K s h S; exact ⟨s,h,S⟩
 | cons o l ih =>
  intro g K s h S;cases o with
  | tmp t =>
   obtain ⟨s1,h1,S1⟩:=xD h S;obtain ⟨s2,h2,S2⟩:=xD h1 S1;exact ih h2 S2
  | _=>exact ih h S
theorem O6 {T:Nat->Option TI} {t d:Nat} {parts:List (Nat × Operand)} {K:St->Prop} {c:Cx} {s:St} {a:Act} {w:World} (h:lj T t d parts K s) (S:Sat c s a w):∃ s',K s'/\Sat c s' a w:=by
 cases h1:T t with
 | none=>simp only [lj,h1] at h; exact ⟨s,h,S⟩
 | some ts =>
  cases h2:T ts.elem with
  | none=>simp only [lj,h1,h2] at h; exact ⟨s,h,S⟩
  | some te=>simp only [lj,h1,h2] at h; exact O5 h S
def AV.viewed1:AV->AV
 | .sub _ _ _ k r=>.sl false k r
 | v=>v
def AV.viewed:AV->AV
 | .agg vs=>.agg (vs.map AV.viewed1)
 | v=>v.viewed1
def iX:List Operand->St->St
 | [],s=>s
 | .tmp t :: r,s=>iX r ⟨upd s.e t ((s.e t).map fun p=>(p.1,p.2.viewed)),s.m⟩
 | _ :: r,s=>iX r s
def nO (r:Option (Bool × Out)) (o:Oper) (s:St) (K:St->Prop):Prop:=match r with
 | some (g,u)=>u.pre/\(u.pre->u.fact->K (s.next o g u.av u.puts))
 | none=>False
theorem Jj (g:Bool) (u:Out) (o:Oper) (s:St) (K:St->Prop):nO (some (g,u)) o s K=(u.pre/\(u.pre->u.fact->K (s.next o g u.av u.puts))):=rfl
def shr (mvs:List Nat) (d:Option Nat):Bool:=match d with
 | some t=>mvs.contains (t+4096)
 | none=>false
theorem OM (d:Option Nat):shr [] d=false:=by cases d <;> rfl
theorem DO {w m β c v u} (h:RelL w m β c [v] [u]):RelL w m β c [v.viewed1] [u]:=by
 cases v with
 | sub h' i j k r=>cases h with | sub _ h2 _ _=>exact .sl h2 .lnil
 | _=>exact h
theorem Ql {w m β c v u} (h:RelL w m β c [v] [u]):RelL w m β c [v.viewed] [u]:=by
 cases v with
 | agg vs =>
  cases h with
  | @agg _ us _ _ h1 h2 _ =>
   refine .agg ?_ h2 .lnil;clear h2
   induction vs generalizing us with
   | nil=>cases h1; exact .lnil
   | cons x xs ih =>
    obtain ⟨y,ys,rfl,r1,r2⟩:=h1.uncons;exact (DO r1).append (ih r2)
 | _=>exact DO h
theorem DN {m:Nat->Option Blk} {v:AV} (h:alive m v):alive m v.viewed1:=by
 cases v with
 | sub=>intro g hg; cases hg
 | _=>exact h
theorem Qk {m:Nat->Option Blk} {v:AV} (h:alive m v):alive m v.viewed:=by
 cases v with
 | agg vs =>
  intro g hg;simp only [AV.viewed,AV.hs] at hg;obtain ⟨b,q1,q2⟩:=l9 hg;obtain ⟨x,hx,rfl⟩:=List.mem_map.1 q1;have hx':alive m x:=fun g' hg'=>h g' (by
   simp only [AV.hs];clear q1 q2 h hg
   induction vs with
   | nil=>cases hx
   | cons y ys ih =>
    simp only [AV.hs.hsL,List.mem_append];rcases List.mem_cons.1 hx with rfl | hx
    ·exact .inl hg'
    ·exact .inr (ih hx))
  exact DN hx' g q2
 | _=>exact DN h
theorem OJ {c:Cx} {a:Act} {w:World}:∀ {l:List Operand} {s:St},Sat c s a w->Sat c (iX l s) a w:=by
 intro l
 induction l with
 | nil=>intro s S; exact S
 | cons o l ih =>
  intro s S;cases o with
  | tmp t =>
   refine ih ?_;obtain ⟨β,fp,S⟩:=S;refine ⟨β,fp,⟨fun t' g av ht=>?_,S.mem,S.nodup,S.disj,S.free,S.fg,S.old,S.os,S.tape,S.output,S.size,S.defers,S.tn,S.pin⟩⟩;by_cases e:t'=t
   ·subst e;simp only [upd_same] at ht;cases hs:s.e t' with
    | none=>rw [hs] at ht; cases ht
    | some p =>
     obtain ⟨g0,v0⟩:=p;rw [hs] at ht;simp only [Option.map_some,Option.some.injEq,Prod.mk.injEq] at ht;obtain ⟨rfl,rfl⟩:=ht;obtain ⟨q1,q2,q3⟩:=S.env t' g0 v0 hs;exact ⟨q1,fun hg=>Ql (q2 hg),fun hg=>⟨(q3 hg).1,Qk (q3 hg).2⟩⟩
   ·simp only [upd_ne _ _ e] at ht;exact S.env t' g av ht
  | _=>exact ih S
theorem O9 {P:Program} {T:Nat->Option TI} (hT:∀ t ti,T t=some ti->TOk P t ti) {c:Cx} {ops o s K a w} {next:Act->World->Prop} {Q:Exit->Act->World->Prop}
  (h:nO (aT T c.n ops s.m o s) o s K) (S:Sat c s a w) (hK:∀ s' a' w',K s'->Sat c s' a' w'->next a' w') :
  if Region.wanted o (yielded ops a.tmps) then o.wp P a w next Q else next (a.put o.dst undef) w:=by
 unfold nO at h;split at h
 ·rename_i g u he;obtain ⟨β,fp,S⟩:=S;obtain ⟨q1,q2,q3⟩:=oP hT S (fun _ _ h=>h) he h.1;rw [q1];cases g with
  | false =>
   simp only [Bool.false_eq_true,if_false] at q3 ⊢;exact hK _ _ _ (h.2 h.1 q2) q3
  | true =>
   simp only [if_true] at q3 ⊢;obtain ⟨v,w',e,S'⟩:=q3;unfold Oper.wp;rw [e];exact hK _ _ _ (h.2 h.1 q2) S'
 ·exact h.elim
def AV.isSub:AV->Bool
 | .sub _ _ _ _ _=>true
 | _=>false
def mc (b:Bool) (T:Nat->Option TI) (t q g:Nat) (K:St->Prop) (s:St):Prop:=match b with
 | true=>match T t with
  | some ts=>fV ts q g s K
  | none=>K s
 | false=>K s
def iY (T:Nat->Option TI) (x:Operand) (t g:Nat) (K:St->Prop) (s:St):Prop:=match x with
 | .tmp q=>mc (s.val (.tmp q)).isSub T t q g K s
 | _=>K s
theorem Dz {T:Nat->Option TI} {x:Operand} {t g:Nat} {K:St->Prop} {c:Cx} {s:St} {a:Act} {w:World} (h:iY T x t g K s) (S:Sat c s a w):∃ s',K s'/\Sat c s' a w:=by
 unfold iY at h;split at h
 ·unfold mc at h;split at h
  ·split at h
   ·exact xD h S
   ·exact ⟨s,h,S⟩
  ·exact ⟨s,h,S⟩
 ·exact ⟨s,h,S⟩
def jD (T:Nat->Option TI) (cs:Nat->Option Con) (n:Nat) (mvs:List Nat) (ops:Array Oper) (o:Oper) (s:St) (K:St->Prop):Prop:=match o.op with
 | .buildSlice t _ parts=>bif shr mvs o.dst then nO (aT T n ops (iX (parts.toList.map (·.2)) s).m o (iX (parts.toList.map (·.2)) s)) o (iX (parts.toList.map (·.2)) s) K
  else lj T t (Oper.hnd o) parts.toList (fun s1=>bY T cs n ops o s1 K) s
 | .call { callee:=.builtin .append,args,argTypes }=>match args.toList,argTypes.toList with
  | [x,_],[t,_]=>iY T x t (Oper.hnd o+1) (fun s1=>bY T cs n ops o s1 K) s
  | _,_=>bY T cs n ops o s K
 | _=>bY T cs n ops o s K
theorem Em {P:Program} {T:Nat->Option TI} (hT:∀ t ti,T t=some ti->TOk P t ti) {cs:Nat->Option Con} (hcs:∀ f k,cs f=some k->Has P f k) {c:Cx} (hkn:∀ f k,cs f=some k->Kn k.need c) {mvs ops o s K a w}
  {next:Act->World->Prop} {Q:Exit->Act->World->Prop} (h:jD T cs c.n mvs ops o s K) (S0:Sat c s a w) (hK:∀ s' a' w',K s'->Sat c s' a' w'->next a' w') :
  if Region.wanted o (yielded ops a.tmps) then o.wp P a w next Q else next (a.put o.dst undef) w:=by
 unfold jD at h;split at h
 ·cases hb:shr mvs o.dst with
  | true =>
   rw [hb,cond_true] at h;exact O9 hT h (OJ S0) hK
  | false =>
   rw [hb,cond_false] at h;obtain ⟨s1,h1,S1⟩:=O6 h S0;exact lD hT hcs hkn h1 S1 hK
 ·split at h
  ·obtain ⟨s1,h1,S1⟩:=Dz h S0;exact lD hT hcs hkn h1 S1 hK
  ·exact lD hT hcs hkn h S0 hK
 ·exact lD hT hcs hkn h S0 hK
end Vx
end Go.Proofs.YthgfdbfmnbgkaaaGreatDoor
