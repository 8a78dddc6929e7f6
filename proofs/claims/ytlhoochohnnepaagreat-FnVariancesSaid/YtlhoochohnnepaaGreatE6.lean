/- Parts EvAE, EvAF, EvAG. -/
import Derived.Test.YtlhoochohnnepaaGreatE5
set_option linter.all false
set_option maxHeartbeats 4000000
set_option maxRecDepth 20000
/- The engine: a table of rows, each with a label of its own. -/
namespace Go.Ev
open Go.RowKit (Below)
def zs {α:Type}(f:α->Ob):Nat->List α->List (Nat×Option Ob)
 | _,[]=>[]
 | b,r::R=>(b,some (f r))::zs f (b+1) R
def jO {α:Type}(n:α->Nat)(s:Nat):Nat->List α->List PV
 | _,[]=>[]
 | b,r::R=>.ref b s 0 (n r)::jO n s (b+1) R
theorem aBb {α:Type}(f:α->Ob):∀ (R:List α) (b l:Nat),lo (zs f b R) l=if b<=l then(R[l-b]?).map f else none
 | [],b,l=>by simp[zs,lo]
 | r::R,b,l=>by
  rw[zs,aI,aBb f R]
  by_cases h:b=l
  · subst h;simp
  · rw[aTc h]
    by_cases h2:b<=l
    · rw[aTd h2,aTd (by omega),show l-b=(l-(b+1))+1 by omega,aVH]
    · rw[aTc h2,aTc (by omega)]
theorem aFx {α:Type}(n:α->Nat)(s:Nat):∀ (R:List α) (b i:Nat),(jO n s b R)[i]?=(R[i]?).map fun r=>.ref (b+i) s 0 (n r)
 | [],b,i=>by simp[jO]
 | r::R,b,0=>by simp[jO]
 | r::R,b,i+1=>by rw[jO,aVH,aVH,aFx n s R,show b+1+i=b+(i+1)by omega]
theorem aFw {α:Type}(n:α->Nat)(s:Nat):∀ (R:List α) (b:Nat),(jO n s b R).length=R.length
 | [],b=>rfl
 | r::R,b=>by simp[jO,aFw n s R]
theorem aHi {α:Type}(n:α->Nat)(s:Nat)(x:α):∀ (R:List α) (b:Nat),jO n s b (R++[x])=jO n s b R++[.ref (b+R.length) s 0 (n x)]
 | [],b=>by simp[jO]
 | r::R,b=>by rw[aTm,jO,jO,aHi n s x R,aTG,aTm,show b+1+R.length=b+(R.length+1)by omega]
theorem aDK {α:Type}(n:α->Nat)(s:Nat){d:Nat}:∀ (R:List α) (b:Nat),(d<b\/b+R.length<=d)->zS (fun p=>aAZ d p.labs) (jO n s b R)=false
 | [],b,_=>rfl
 | r::R,b,h=>by
  rw[jO]
  simp only[aTG]at h
  have h1:aAZ d (PV.ref b s 0 (n r)).labs=false:=by
   cases hx:aAZ d (PV.ref b s 0 (n r)).labs with
   | false=>rfl
   | true =>
    have:=(aDX _ _).1 hx
    simp only[PV.labs,aTU]at this
    omega
  simp only[zS,h1,aVU]
  exact aDK n s R (b+1) (by omega)
theorem aFl {α:Type}{f:α->Ob}(hb:∀ r,(f r).box=false){d:Nat}(hd:d≠777777777):∀ (R:List α) (b:Nat),rI (zs f b R) d=false
 | [],_=>rfl
 | r::R,b=>by simp[zs,rI,hb,hd,aFl hb hd R]
theorem aFB {α:Type}{f:α->Ob}(hb:∀ r,aAv (f r)=true)(ls:List Nat):∀ (R:List α) (b:Nat),yU ls (zs f b R)=true
 | [],_=>rfl
 | r::R,b=>by simp[zs,yU,hb,aFB hb ls R]
theorem aAA {α:Type}{f:α->PV}(h:∀ r,(f r).labs=[]):∀ R:List α,gD (R.map f)=true
 | []=>rfl
 | r::R=>by simp only[aTo,gD,h,aVT];exact aAA h R
theorem aLm {d:Nat}:∀ {ps:List PV},gD ps=true->zS (fun p=>aAZ d p.labs) ps=false:=by
 intro ps h
 cases hx:zS (fun p=>aAZ d p.labs) ps with
 | false=>rfl
 | true =>
  obtain⟨p,hp,hl⟩:=(yE _ _).1 hx
  rw[kE h p hp]at hl;simp[aAZ,uE]at hl
theorem aPh {α:Type}(p:α->Bool)(a b:List α):zS p (a++b)=(zS p a||zS p b):=by
 induction a with
 | nil=>rfl
 | cons x r ih=>simp[zS,ih,Bool.or_assoc]
section
variable {P:Program}{N:Nat}{Γ:Ctx P N}{S:List (Nat×Slot)}{O O':List (Nat×Option Ob)}{a:Act}{w:World}{ow:Nat->Own}{β:Nat->Option (Option Nat)}
theorem SimG.reobj (h:SimG Γ ow β ⟨S,O⟩ a w)(hn:∀ l,lo O' l=none↔lo O l=none)
 (ho:∀ l ob',lo O' l=some ob'->∃ B,(∀ b∈B,Im Γ ow w b)/\(ob'.deep=true->B.Nodup/\∀ b∈B,ow b=.obj l/\fP w b)/\
  ((β l=some none/\ob'.cells=[]/\B=[])\/∃ b cs t,β l=some (some b)/\ow b=.lab l/\w.heap[b]?=some (.cells cs t (0,0))/\RelL w.heap true (if ob'.box then β else dead) ob'.cells cs 0 B)):SimG Γ ow β ⟨S,O'⟩ a w :=
 { size:=h.size,defers:=h.defers,kept:=h.kept,slots:=h.slots,objs:=ho,gone:=fun l hl=>h.gone l ((hn l).1 hl),own:=h.own,
   ios:=fun l b h1 h2=>h.ios l b h1 (by
    simp only at h2 ⊢
    cases hx:lo O l with
    | none=>rw[(hn l).2 hx]at h2;cases h2
    | some _=>rfl),fresh:=h.fresh }
theorem Ent.same (h:∀ l,lo O' l=lo O l):Ent Γ ⟨S,O⟩ ⟨S,O'⟩:=fun a w hs=>Sim.congr (E:=⟨S,O⟩) (E':=⟨S,O'⟩) (fun _=>rfl) h hs
theorem Ent.rebox (l:Nat){cells:List PV}{dp:Bool}(ho:loq O l=some ⟨cells,dp,false⟩)(hn:gD cells=true):Ent Γ ⟨S,O⟩ ⟨S,(l,some ⟨cells,dp,true⟩)::O⟩:=by
 rintro a w ⟨ow,β,h⟩
 have ho':lo O l=some ⟨cells,dp,false⟩:=by rw[<- bP];exact ho
 refine⟨ow,β,h.reobj (fun m=>?_) fun m ob' hm=>?_⟩
 · rw[aI]
   by_cases hml:l=m
   · subst hml;simp[ho']
   · rw[aTc hml]
 · rw[aI]at hm
   by_cases hml:l=m
   · subst hml
     rw[aTd rfl]at hm;cases hm
     obtain⟨B,o1,o2,o3⟩:=h.objs l _ ho'
     refine⟨B,o1,o2,o3.imp id ?_⟩
     rintro⟨b,cs,t,e1,e2,e3,e4⟩
     exact⟨b,cs,t,e1,e2,e3,sE (kE hn) e4⟩
   · rw[aTc hml]at hm;exact h.objs m ob' hm
theorem aHh {h:Array Obj}{q:Bool}{β:Nat->Option (Option Nat)}:∀ {vs:List Value} {cs:Array Value} {i:Nat} {B:List Nat},RelL h q β (vs.map PV.sc) cs i B->B=[]/\(∀ k,k<vs.length->cs[i+k]?=vs[k]?)/\(q=true->∀ v∈vs,v.oneCell'=true)
 | [],_,_,_,H=>by simp only[aT8,RelL]at H;exact⟨H,by simp,by simp⟩
 | v::vs,cs,i,B,H=>by
  simp only[aTo,RelL,RelV]at H
  obtain⟨c,O1,O2,h1,⟨rfl,rfl⟩,h3,rfl⟩:=H
  obtain⟨rfl,g2,g3⟩:=aHh h3
  refine⟨rfl,fun k hk=>?_,fun hq v' hv=>?_⟩
  · cases k with
    | zero=>simpa using h1.1
    | succ k=>rw[show i+(k+1)=i+1+k by omega,g2 k (by simpa using hk)];simp
  · rcases aTf.1 hv with rfl | hv
    · exact h1.2 hq
    · exact g3 hq v' hv
def aMI (v:List Value):Ob:=⟨v.map PV.sc,true,false⟩
theorem OldL.length:∀ {vs:List Value} {ps:List PV},OldL Γ vs ps->vs.length=ps.length
 | [],[],_=>rfl
 | v::vs,p::ps,h=>by simp[OldL.length h.2]
 | [],_::_,h=>h.elim
 | _::_,[],h=>h.elim
theorem Ent.wakeZ {α:Type}{enc:α->List PV}{T b:Nat}{A:Ob}{V:List (List Value)}{R:List α}(hT:T<b)(hl:V.length=R.length)(ho:∀ (i:Nat) v r,V[i]?=some v->R[i]?=some r->OldL Γ v (enc r)) :
 Ent Γ ⟨S,(T,some A)::zs aMI b V⟩ ⟨S,(T,some A)::zs (fun r=>⟨enc r,false,false⟩) b R⟩:=by
 rintro a w ⟨ow,β,h⟩
 refine⟨ow,β,h.reobj (fun m=>?_) fun m ob' hm=>?_⟩
 · rw[aI,aI]
   by_cases hml:T=m
   · simp[hml]
   · rw[aTc hml,aTc hml,aBb,aBb]
     by_cases hb:b<=m
     · simp[hb,hl]
     · simp[hb]
 · by_cases hml:T=m
   · rw[aI,aTd hml]at hm
     exact h.objs m ob' (by rw[aI,aTd hml];exact hm)
   · rw[aI,aTc hml,aBb]at hm
     by_cases hb:b<=m
     · rw[aTd hb]at hm
       cases hr:R[m-b]? with
       | none=>rw[hr]at hm;cases hm
       | some r =>
        rw[hr]at hm;simp only[aV4,Option.some.injEq]at hm;subst hm
        have hlt:=(aTH.1 hr).1
        have hv:V[m-b]?=some (V[m-b]'(by omega)):=aTl _
        have hO:=ho _ _ _ hv hr
        obtain⟨B,_,_,o3⟩:=h.objs m (aMI (V[m-b]'(by omega))) (by rw[aI,aTc hml,aBb,aTd hb,hv];rfl)
        rcases o3 with⟨e1,e2,_⟩ | ⟨blk,cs,t,e1,e2,e3,e4⟩
        · refine⟨[],by simp,by simp,.inl ⟨e1,?_,rfl⟩⟩
          have:=OldL.length hO
          simp only[aMI,List.map_eq_nil_iff]at e2
          rw[e2]at this
          exact aTq.1 this.symm
        · obtain⟨_,g2,g3⟩:=aHh e4
          obtain⟨B',q1,q2⟩:=OldL.read h hO g2 (g3 rfl)
          exact⟨B',q2,by simp,.inr ⟨blk,cs,t,e1,e2,e3,q1⟩⟩
     · rw[aTc hb]at hm;cases hm
theorem Ent.absorb (l L c:Nat){s n:Nat}{cells cs':List PV}{dp dpL:Bool}(ho:loq O l=some ⟨cells,dp,true⟩)(hL:loq O L=some ⟨cs',dpL,false⟩)(hc:cells[c]?=some (.ref L s 0 n))(hne:l≠L)(hio:Γ.io L=none) :
 Ent Γ ⟨S,O⟩ ⟨S,(L,none)::(l,some ⟨cells.set c (.sl n cs'),false,true⟩)::O⟩:=by
 classical
 rintro a w ⟨ow,β,h⟩
 have ho':lo O l=some ⟨cells,dp,true⟩:=by rw[<- bP];exact ho
 have hL':lo O L=some ⟨cs',dpL,false⟩:=by rw[<- bP];exact hL
 obtain⟨BL,l1,l2,l3⟩:=h.objs L _ hL'
 let ow':Nat->Own:=fun b=>if ow b=.lab L\/ow b=.obj L then .none else ow b
 let β':Nat->Option (Option Nat):=fun m=>if m=L then none else β m
 have hβ':∀ m,m≠L->β' m=β m:=fun m hm=>by show(if _ then _ else _)=_;rw[aTc hm]
 have hβL:β' L=none:=by show(if _ then _ else _)=_;rw[aTd rfl]
 have how:∀ b m,m≠L->(ow' b=.lab m↔ow b=.lab m):=by
  intro b m hm
  show(if _ then _ else _)=_↔_
  split
  · rename_i hx
    constructor
    · intro e;cases e
    · intro e;rw[e]at hx;rcases hx with hx | hx
      · injection hx with hx;exact absurd hx hm
      · cases hx
  · exact Iff.rfl
 have how0:∀ b,ow' b≠.lab L:=by
  intro b e
  change (if _ then _ else _)=_ at e
  split at e
  · cases e
  · rename_i hx;exact hx (.inl e)
 have how1:∀ b m,m≠L->ow b=.obj m->ow' b=.obj m:=by
  intro b m hm e
  show(if _ then _ else _)=_
  rw[aTc (by rw[e];simp[hm])];exact e
 have how2:∀ b k,ow b=.slot k->ow' b=.slot k:=by
  intro b k e
  show(if _ then _ else _)=_
  rw[aTc (by rw[e];simp)];exact e
 have how3:∀ b,ow' b≠.none->ow b≠.none/\ow' b=ow b:=by
  intro b e
  change (if _ then _ else _)≠_ at e
  split at e
  · exact absurd rfl e
  · rename_i hx;exact⟨e,by show(if _ then _ else _)=_;rw[aTc hx]⟩
 have hIm:∀ b,Im Γ ow w b->Im Γ ow' w b:=fun b ⟨h1,h2,h3⟩=>⟨h1,h2,fun m e=>by
  by_cases hm:m=L
  · subst hm;exact how0 b e
  · exact h3 m ((how b m hm).1 e)⟩
 have hkeep:∀ m,KeepB w.heap w.heap β β' m:=fun m ob e=>by
  by_cases hm:m=L
  · subst hm;rw[hβL]at e;cases e
  · rw[hβ' m hm]at e;exact⟨e,fun b _ c t hc=>⟨c,hc,rfl⟩⟩
 refine⟨ow',β',{ size:=h.size,defers:=h.defers,kept:=h.kept,slots:=fun k=>?_,objs:=fun m ob hm=>?_,gone:=fun m hm=>?_,own:=fun b hb=>?_,ios:=fun m b hm hs=>?_,fresh:=fun m b hm hiom=>?_ }⟩
 · obtain⟨B,g1,g2,g3⟩:=h.slots k
   exact⟨B,aWl _ _ _ (fun m _=>hkeep m) (fun _ _=>rfl) g1,fun b hb=>hIm b (g2 b hb),fun hd=>⟨(g3 hd).1,fun b hb=>⟨how2 b k ((g3 hd).2 b hb).1,((g3 hd).2 b hb).2⟩⟩⟩
 · simp only[aI]at hm
   by_cases hmL:L=m
   · rw[aTd hmL]at hm;cases hm
   rw[aTc hmL]at hm
   by_cases hml:l=m
   · subst hml
     rw[aTd rfl]at hm;cases hm
     obtain⟨Ol,o1,_,o3⟩:=h.objs l _ ho'
     rcases o3 with⟨_,e2,_⟩ | ⟨b0,cs,t,p1,p2,p3,p4⟩
     · simp only at e2;subst e2;simp at hc
     simp only[aTz]at p4
     obtain⟨v,O1,Oc,O2,q1,q2,q3,q4,q5,rfl⟩:=p4.at hc
     simp only[RelV]at q3
     obtain⟨rfl,q6,q7⟩:=q3
     have fin:∀ Bn,RelV w.heap β' (.sl n cs') v Bn->(∀ b∈Bn,Im Γ ow' w b)->∃ B,(∀ b∈B,Im Γ ow' w b)/\(false=true->B.Nodup/\∀ b∈B,ow' b=.obj l/\fP w b)/\
      ((β' l=some none/\(cells.set c (.sl n cs'))=[]/\B=[])\/∃ b cs t,β' l=some (some b)/\ow' b=.lab l/\w.heap[b]?=some (.cells cs t (0,0))/\RelL w.heap true β' (cells.set c (.sl n cs')) cs 0 B):=by
      intro Bn r1 r2
      refine⟨O1++(Bn++O2),fun b hb=>?_,by simp,.inr ⟨b0,cs,t,by rw[hβ' l hne];exact p1,(how b0 l hne).2 p2,p3,?_⟩⟩
      · rcases aTj.1 hb with hb | hb
        · exact hIm b (o1 b (by simp[hb]))
        · rcases aTj.1 hb with hb | hb
          · exact r2 b hb
          · exact hIm b (o1 b (by simp[hb]))
      · exact RelL.put hc q1 q2 r1 (aWk _ _ _ _ (fun _ _ m _=>hkeep m) (fun _ _=>rfl) q4) (aWk _ _ _ _ (fun _ _ m _=>hkeep m) (fun _ _=>rfl) q5)
     rcases l3 with⟨e1,e2,e3⟩ | ⟨b,cs2,t2,e1,e2,e3,e4⟩
     · obtain⟨rfl,_,rfl⟩:=q6 e1
       simp only at e2;subst e2
       exact fin [] (by simp only[RelV];exact .inl ⟨trivial,trivial,trivial,none,0,rfl⟩) (by simp)
     · obtain⟨cap,cs3,t3,f1,f2,f3,f4⟩:=q7 b e1
       simp only[aU6]at f1
       refine fin (b::BL) (by simp only[RelV];exact .inr ⟨b,0,cap,cs2,t2,(0,0),BL,⟨f1,f4⟩,e3,e4,rfl⟩) (fun x hx=>?_)
       rcases aTf.1 hx with rfl | hx
       · refine⟨h.block_lt e1,.inr (.inl (h.fresh L x e1 hio)),fun m e=>?_⟩
         by_cases hm:m=L
         · subst hm;exact how0 x e
         · have:=(how x m hm).1 e;rw[e2]at this;injection this with this;exact hm this.symm
       · exact hIm x (l1 x hx)
   · rw[aTc hml]at hm
     obtain⟨B,o1,o2,o3⟩:=h.objs m ob hm
     refine⟨B,fun b hb=>hIm b (o1 b hb),fun hd=>⟨(o2 hd).1,fun b hb=>⟨how1 b m (fun e=>hmL e.symm) ((o2 hd).2 b hb).1,((o2 hd).2 b hb).2⟩⟩,?_⟩
     rcases o3 with⟨e1,e2,e3⟩ | ⟨b,cs,t,e1,e2,e3,e4⟩
     · exact .inl ⟨by rw[hβ' m (fun e=>hmL e.symm)];exact e1,e2,e3⟩
     · refine .inr ⟨b,cs,t,by rw[hβ' m (fun e=>hmL e.symm)];exact e1,(how b m (fun e=>hmL e.symm)).2 e2,e3,?_⟩
       cases hb:ob.box with
       | true=>rw[hb]at e4;exact aWk _ _ _ _ (fun _ _ m _=>hkeep m) (fun _ _=>rfl) e4
       | false=>rw[hb]at e4;exact e4
 · simp only[aI]at hm
   by_cases hmL:L=m
   · subst hmL;exact hβL
   rw[aTc hmL]at hm
   rw[hβ' m (fun e=>hmL e.symm)]
   by_cases hml:l=m
   · rw[aTd hml]at hm;cases hm
   · rw[aTc hml]at hm;exact h.gone m hm
 · obtain⟨h1,h2⟩:=how3 b hb
   obtain⟨g1,g2⟩:=h.own b h1
   refine⟨g1,g2.imp id ?_⟩
   rintro⟨m,e1,e2⟩
   exact⟨m,by rw[h2];exact e1,e2⟩
 · have hmL:m≠L:=fun e=>by rw[e,hio]at hm;cases hm
   rw[hβ' m hmL]
   refine h.ios m b hm ?_
   simp only[aI]at hs ⊢
   rw[aTc (fun e=>hmL e.symm)]at hs
   by_cases hml:l=m
   · subst hml;rw[ho'];rfl
   · rw[aTc hml]at hs;exact hs
 · by_cases hmL:m=L
   · subst hmL;rw[hβL]at hm;cases hm
   · rw[hβ' m hmL]at hm;exact h.fresh m b hm hiom
def aEz (n:List Value->Nat)(s b k:Nat)(V:List (List Value)):List PV:=jO n s b (V.take k)++(V.drop k).map fun v=>.rw s (n v) (v.map PV.sc)
theorem aOu {n:List Value->Nat}{s b k:Nat}{V:List (List Value)}{v:List Value}(hv:V[k]?=some v):(aEz n s b k V)[k]?=some (.rw s (n v) (v.map PV.sc)):=by
 have hlt:=(aTH.1 hv).1
 have hl:(jO n s b (V.take k)).length=k:=by rw[aFw,aTS];omega
 rw[aEz,aT0 (by omega),hl,List.getElem?_map,aUg,show k+(k-k)=k by omega,hv];rfl
theorem aMW {n:List Value->Nat}{s b k:Nat}{V:List (List Value)}{v:List Value}(hv:V[k]?=some v):(aEz n s b k V).set k (.ref (b+k) s 0 (n v))=aEz n s b (k+1) V:=by
 have hlt:=(aTH.1 hv).1
 have hl:(jO n s b (V.take k)).length=k:=by rw[aFw,aTS];omega
 have e1:V.drop k=v::V.drop (k+1):=by rw[aTh hlt,(aTH.1 hv).2]
 have e2:V.take (k+1)=V.take k++[v]:=by rw[aVL,hv];rfl
 rw[aEz,aEz,e1,e2,aHi,aVp _ _ (by omega),hl,aUV,aTS,aUP (by omega)]
 simp
theorem Ent.unpackZ {T b s:Nat}{n:List Value->Nat}{V:List (List Value)}(hT:T<b)(hS:∀ l,b<=l->l<b+V.length->aCh S l=false)(hq:∀ k,yV (lk S k)=true)(hio:∀ l,b<=l->l<b+V.length->Γ.io l=none)(hle:∀ b,¬Γ.lent b)(hb:b+V.length<=777777777) :
 Ent Γ ⟨S,[(T,some ⟨V.map fun v=>.rw s (n v) (v.map PV.sc),true,false⟩)]⟩ ⟨S,(T,some ⟨jO n s b V,true,true⟩)::zs aMI b V⟩:=by
 have key:∀ k,k<=V.length->Ent Γ ⟨S,[(T,some ⟨V.map fun v=>.rw s (n v) (v.map PV.sc),true,false⟩)]⟩ ⟨S,(T,some ⟨aEz n s b k V,true,true⟩)::zs aMI b (V.take k)⟩:=by
  intro k
  induction k with
  | zero =>
   intro _ a w hs
   have h1:=Ent.rebox (l:=T) (cells:=V.map fun v=>.rw s (n v) (v.map PV.sc)) (dp:=true) (S:=S) (O:=[(T,some ⟨V.map fun v=>.rw s (n v) (v.map PV.sc),true,false⟩)]) (by simp[loq]) (by
    exact aAA (fun _=>rfl) V) a w hs
   refine Ent.same (fun l=>?_) a w h1
   simp only[aEz,aVw,aTZ,jO,zs,aTi,aI]
   by_cases e:T=l
   · rw[aTd e,aTd e]
   · rw[aTc e,aTc e,aTc e]
  | succ k ih =>
   intro hk a w hs
   have h0:=ih (by omega) a w hs
   have hv:V[k]?=some (V[k]'(by omega)):=aTl _
   have hbd:Nat.beq (b+k) 777777777=false:=by rw[kR,aU9];omega
   have hne:T≠b+k:=by omega
   have h1:=Ent.unpack (S:=S) (O:=(T,some ⟨aEz n s b k V,true,true⟩)::zs aMI b (V.take k)) T (b+k) k (cells:=aEz n s b k V) (bx:=true) (by simp[loq]) (aOu hv) rfl
    (by simp only[yU,uE,Nat.beq_eq_true_eq,Bool.true_or,aVT];rw[aFB (fun _=>rfl)];simp)
    (by
     simp only[sD,hS _ (show b<=b+k by omega) (by omega),rI,aVV,hbd,Bool.false_and,aV1,aVU]
     rw[aFl (fun _=>rfl) (by omega),aEz,aPh,aDK _ _ _ _ (by rw[aTS];omega)]
     simp only[aVU,aV1]
     exact aLm (aAA (fun _=>rfl) _))
    (by
     rw[bP,aI,aTc hne,aBb,aTd (by omega),aVN (by rw[aTS];omega)];rfl)
    (hio _ (by omega) (by omega)) hle a w h0
   rw[aMW hv]at h1
   refine Sim.congr (fun j=>?_) (fun l=>?_) h1
   · rw[aDH,aH4,hq j];rfl
   · simp only[aI,aBb]
     by_cases e:T=l
     · rw[aTd e,aTd e]
     rw[aTc e,aTc e,aTc e]
     by_cases e2:b+k=l
     · subst e2
       rw[aTd rfl,aTd (by omega),show b+k-b=k by omega,aUp,aTd (by omega),hv];rfl
     · rw[aTc e2]
       by_cases e3:b<=l
       · rw[aTd e3,aTd e3,aUp,aUp]
         by_cases e4:l-b<k
         · rw[aTd e4,aTd (by omega)]
         · rw[aTc e4,aTc (by omega)]
       · rw[aTc e3,aTc e3]
 have:=key V.length (aTn _)
 simpa [aEz]using this
theorem Ent.absorbZ {α:Type}{n:α->Nat}{enc:α->List PV}{T b s:Nat}{R:List α}{dp:Bool}(hT:T<b)(hio:∀ l,b<=l->l<b+R.length->Γ.io l=none) :
 Ent Γ ⟨S,(T,some ⟨jO n s b R,dp,true⟩)::zs (fun r=>⟨enc r,false,false⟩) b R⟩ ⟨S,[(T,some ⟨R.map fun r=>.sl (n r) (enc r),false,false⟩)]⟩:=by
 have key:∀ k,k<=R.length->Ent Γ ⟨S,(T,some ⟨jO n s b R,dp,true⟩)::zs (fun r=>⟨enc r,false,false⟩) b R⟩ ⟨S,(T,some ⟨(R.take k).map (fun r=>.sl (n r) (enc r))++jO n s (b+k) (R.drop k),false,true⟩)::zs (fun r=>⟨enc r,false,false⟩) (b+k) (R.drop k)⟩:=by
  intro k
  induction k with
  | zero =>
   intro _ a w hs
   have h1:=Ent.undeep (l:=T) (cells:=jO n s b R) (dp:=dp) (bx:=true) (by simp[loq]) a w hs
   refine Ent.same (fun l=>?_) a w h1
   simp only[aVw,aTZ,aT8,aTi,aTX,aI]
   by_cases e:T=l
   · rw[aTd e,aTd e]
   · rw[aTc e,aTc e,aTc e]
  | succ k ih =>
   intro hk a w hs
   have h0:=ih (by omega) a w hs
   have hv:R[k]?=some (R[k]'(by omega)):=aTl _
   have hne:T≠b+k:=by omega
   have hl:((R.take k).map (fun r=>PV.sl (n r) (enc r))).length=k:=by rw[aTs,aTS];omega
   have e1:R.drop k=(R[k]'(by omega))::R.drop (k+1):=aTh _
   have h1:=Ent.absorb (S:=S) T (b+k) k (s:=s) (n:=n (R[k]'(by omega))) (cs':=enc (R[k]'(by omega))) (dpL:=false) (O:=(T,some ⟨(R.take k).map (fun r=>.sl (n r) (enc r))++jO n s (b+k) (R.drop k),false,true⟩)::zs (fun r=>⟨enc r,false,false⟩) (b+k) (R.drop k)) (by rw[bP,aI,aTd rfl])
    (by rw[bP,aI,aTc hne,aBb,aTd (by omega),aUV,aUg,aTX,hv];rfl)
    (by rw[aT0 (by omega),hl,aUV,aFx,aUg,aTX,aTX,hv];rfl) hne (hio _ (by omega) (by omega)) a w h0
   have e2:((R.take k).map (fun r=>PV.sl (n r) (enc r))++jO n s (b+k) (R.drop k)).set k (.sl (n (R[k]'(by omega))) (enc (R[k]'(by omega))))=(R.take (k+1)).map (fun r=>PV.sl (n r) (enc r))++jO n s (b+(k+1)) (R.drop (k+1)):=by
    rw[aVp _ _ (by omega),hl,aUV,e1,jO,aVG,aVL,hv]
    simp only[Option.toList,aUc,aTo,aT8,aTx,aTm,aTi,Nat.add_assoc]
   rw[e2]at h1
   refine Ent.same (fun l=>?_) a w h1
   simp only[aI,aBb]
   by_cases e:T=l
   · subst e
     rw[aTd rfl,aTc (fun e=>hne e.symm),aTd rfl]
   rw[aTc e,aTc e,aTc e]
   by_cases e3:b+k=l
   · rw[aTd e3,aTc (by omega)]
   · rw[aTc e3]
     by_cases e4:b+k<=l
     · rw[aTd e4,aTd (by omega),aUg,aUg];congr 2;omega
     · rw[aTc e4,aTc (by omega)]
 intro a w hs
 have h0:=key R.length (aTn _) a w hs
 simp only[aUz,aUo,jO,zs,aUf]at h0
 have h1:=Ent.unbox (S:=S) T (by rw[bP,aI,aTd rfl]) (by
  exact aAA (fun _=>rfl) R) a w h0
 refine Ent.same (fun l=>?_) a w h1
 simp only[aI]
 by_cases e:T=l
 · rw[aTd e,aTd e]
 · rw[aTc e,aTc e,aTc e]
theorem aGQ {a b:List PV}:gD a=true->gD b=true->gD (a++b)=true:=by
 induction a with
 | nil=>intro _ h;exact h
 | cons x r ih=>intro h1 h2;simp only[gD,aTm,aTB]at h1 ⊢;exact⟨h1.1,ih h1.2 h2⟩
theorem aEj {α:Type}{e:α->List PV}(h:∀ y,gD (e y)=true):∀ l:List α,gD (l.flatMap e)=true
 | []=>rfl
 | y::r=>by rw[aTO];exact aGQ (h y) (aEj h r)
theorem aSq {h:Array Obj}{n:Nat}{cells:List PV}{c:Value}{B:List Nat}(H:RelV h dead (.sl n cells) c B)(hn:n=0↔cells=[]):∃ vs:List Value,∃ cs:Array Value,∃ off B1 B2,vs.length=cells.length/\(∀ k,k<vs.length->cs[off+k]?=vs[k]?)/\RelL h true dead cells cs off B1/\RelV h dead (.sl n (vs.map PV.sc)) c B2/\(∀ b∈B1,b∈B)/\∀ b∈B2,b∈B:=by
 simp only[RelV]at H
 rcases H with⟨h1,h2,h3,h4⟩ | ⟨b,off,cap,cs,t,f,O',h1,h2,h3,h4⟩
 · subst h2
   exact⟨[],#[],0,[],[],rfl,by simp,by simp[RelL],by simp only[RelV];exact .inl ⟨h1,rfl,trivial,h4⟩,by simp,by simp⟩
 · have hlen:off+cells.length<=cs.size\/cells=[]:=by
    cases cells with
    | nil=>exact .inr rfl
    | cons p ps =>
     left
     obtain⟨c',_,g1,_⟩:=RelL.get _ _ _ _ h3 ps.length _ (show(p::ps)[ps.length]?=some _ from aTl (by simp))
     have:=(aUx.1 g1).1
     simp only[aTG];omega
   have hvl:((cs.toList.drop off).take cells.length).length=cells.length:=by
    rw[aTS,aUr]
    rcases hlen with h | h
    · simp;omega
    · simp[h]
   have hk:∀ k,k<((cs.toList.drop off).take cells.length).length->cs[off+k]?=((cs.toList.drop off).take cells.length)[k]?:=fun k hk=>by
    rw[hvl]at hk
    rw[aUp,aTd hk,aUg];simp
   refine⟨_,cs,off,O',[b],hvl,hk,h3,?_,fun x hx=>by rw[h4];simp[hx],fun x hx=>by rw[h4];simp at hx;simp[hx]⟩
   simp only[RelV]
   have:=aON (aNp _ _) (aLM hvl hk h3)
   rw[aNo hvl]at this
   exact .inr ⟨b,off,cap,cs,t,f,[],h1,h2,this,rfl⟩
theorem OldF.rowsZ {α:Type}{enc:α->List PV}{sz:Nat}(hsz:∀ y,(enc y).length=sz)(h0:0<sz)(hnl:∀ y,gD (enc y)=true){R:List (List α)}{c:Value}(h:OldF Γ c (.sl R.length (R.flatMap (mC enc)))) :
 ∃ V:List (List Value),V.length=R.length/\(∀ (i:Nat) v r,V[i]?=some v->R[i]?=some r->OldL Γ v (r.flatMap enc))/\OldF Γ c (.sl V.length (V.map fun v=>.sl (v.length / sz) (v.map PV.sc))):=by
 obtain⟨hl,B,h1,h2⟩:=h
 have hfl:∀ r:List α,(r.flatMap enc).length=r.length*sz:=fun r=>aS hsz
 have hemp:∀ r:List α,r.length=0↔r.flatMap enc=[]:=fun r=>by
  rw[<- aTq,hfl]
  constructor
  · intro e;rw[e,aU6]
  · intro e;rcases Nat.mul_eq_zero.1 e with e | e
    · exact e
    · omega
 have key:∀ (R:List (List α)) (cs:Array Value) (off:Nat) (O':List Nat),(∀ b∈O',b∈B)->RelL Γ.w0.heap true dead (R.flatMap (mC enc)) cs off O' ->
  ∃ V:List (List Value),V.length=R.length/\(∀ (i:Nat) v r,V[i]?=some v->R[i]?=some r->OldL Γ v (r.flatMap enc))/\∃ O2,RelL Γ.w0.heap true dead (V.map fun v=>.sl (v.length / sz) (v.map PV.sc)) cs off O2/\∀ b∈O2,b∈B:=by
  intro R
  induction R with
  | nil=>intro cs off O' _ _;exact⟨[],rfl,by simp,[],by simp[RelL],by simp⟩
  | cons r R ih =>
   intro cs off O' hO H
   rw[aTO]at H
   simp only[mC,aTm,aTi,RelL]at H
   obtain⟨c',O1,O2,g1,g2,g3,rfl⟩:=H
   obtain⟨V,v1,v2,O3,v3,v4⟩:=ih cs (off+1) O2 (fun b hb=>hO b (by simp[hb])) g3
   obtain⟨vs,cs',off',B1,B2,r1,r2,r3,r4,r5,r6⟩:=aSq g2 (hemp r)
   have hO1:OldL Γ vs (r.flatMap enc):=OldL.of (fun _ _ _=>trivial) r1 r2 (aEj hnl r) r3 (fun b hb=>h2 b (hO b (by simp[r5 b hb])))
   refine⟨vs::V,by simp[v1],fun i v r' hv hr=>?_,B2++O3,?_,fun b hb=>?_⟩
   · cases i with
     | zero=>simp at hv hr;subst hv;subst hr;exact hO1
     | succ i=>exact v2 i v r' (by simpa using hv) (by simpa using hr)
   · simp only[aTo,RelL]
     have e:vs.length / sz=r.length:=by rw[r1,hfl];exact Nat.mul_div_cancel _ h0
     rw[e]
     exact⟨c',B2,O3,g1,r4,v3,rfl⟩
   · rcases aTj.1 hb with hb | hb
     · exact hO b (by simp[r6 b hb])
     · exact v4 b hb
 simp only[RelV]at h1
 rcases h1 with⟨e1,e2,e3,e4⟩ | ⟨b,off,cap,cs,t,f,O',e1,e2,e3,e4⟩
 · have:R=[]:=aTq.1 e1
   subst this
   refine⟨[],rfl,by simp,rfl,[],?_,by simp⟩
   simp only[RelV];exact .inl ⟨rfl,rfl,trivial,e4⟩
 · obtain⟨V,v1,v2,O2,v3,v4⟩:=key R cs off O' (fun x hx=>by rw[e4];simp[hx]) e3
   refine⟨V,v1,v2,rfl,b::O2,?_,fun x hx=>h2 x ?_⟩
   · simp only[RelV];rw[v1];exact .inr ⟨b,off,cap,cs,t,f,O2,e1,e2,v3,rfl⟩
   · rcases aTf.1 hx with rfl | hx
     · rw[e4];simp
     · exact v4 x hx
end
/- The engine: rows handed in to be written whose cells read shared blocks. -/
open Go.RowKit (Below)
def aS4 (w:World)(ok:Nat->Prop)(κ:Nat->Option (Option Nat))(o:XO):Prop :=
 (κ o.l=some none/\o.old=[])\/∃ b cs t,κ o.l=some (some b)/\¬ok b/\w.heap[b]?=some (.cells cs t (0,0))/\∃ B,RelL w.heap true dead o.old cs 0 B/\∀ b∈B,ok b
def aPj (w w':World)(ok:Nat->Prop)(κ:Nat->Option (Option Nat))(o:XO):Prop :=
 (κ o.l=some none->o.new=[])/\∀ b,κ o.l=some (some b)->∀ cs t,w.heap[b]?=some (.cells cs t (0,0))->∃ cs',w'.heap[b]?=some (.cells cs' t (0,0))/\cs'.size=cs.size/\∃ B,RelL w'.heap true dead o.new cs' 0 B/\∀ b∈B,ok b\/w.heap.size<=b
def MeetsS (P:Program)(f:FuncId)(args:List PV)(objs:List XO)(r:PV)(deep:Bool):Prop :=
 ∀ (w:World) (cargs:Array Value) (ok:Nat->Prop) (κ:Nat->Option (Option Nat)),XArgs w.heap ok κ args cargs.toList->(∀ o∈objs,aS4 w ok κ o)->(∀ l o,κ l=some o->∃ x∈objs,x.l=l)->(∀ l l' b,κ l=some (some b)->κ l'=some (some b)->l=l')->
  Calls P f cargs w fun e w'=>∃ c B,e=.returned c/\Same w w'/\(∀ b,b<w.heap.size->(∀ l,κ l≠some (some b))->w'.heap[b]?=w.heap[b]?)/\(∀ o∈objs,aPj w w' ok κ o)/\
   RelV w'.heap dead r c B/\(∀ b∈B,ok b\/w.heap.size<=b)/\(deep=true->B.Nodup/\∀ b∈B,w.heap.size<=b/\fP w' b)
def aG4:List XO->List (Nat×Option Ob)
 | []=>[]
 | o::r=>(o.l,some ⟨o.old,false,false⟩)::aG4 r
theorem aE7:∀ {os:List XO} {l:Nat},(lo (aG4 os) l=none/\∀ o∈os,o.l≠l)\/∃ o∈os,o.l=l/\lo (aG4 os) l=some ⟨o.old,false,false⟩
 | [],l=>.inl ⟨rfl,by simp⟩
 | o::r,l=>by
  simp only[aG4,aI]
  by_cases h:o.l=l
  · exact .inr ⟨o,by simp,h,by rw[aTd h]⟩
  · rw[aTc h]
    rcases aE7 (os:=r) (l:=l)with⟨h1,h2⟩ | ⟨o',h1,h2,h3⟩
    · exact .inl ⟨h1,fun x hx=>by rcases aTf.1 hx with rfl | hx;exact h;exact h2 x hx⟩
    · exact .inr ⟨o',by simp[h1],h2,h3⟩
section
variable {P:Program}{N:Nat}
theorem MeetsS.intro {f:FuncId}{fn:Func}{c:Code}{args:List PV}{objs:List XO}{r:PV}{deep:Bool}{rs:Array ResultVar}(hf:P.funcs[f]?=some fn)(hb:fn.body=some c)(hN:fn.ntmps=N)(hrs:fn.results=rs)(hn:Nat.ble args.length N=true)
 (hx:xok objs=true) (hnil:∀ o∈objs,o.old=[]->o.new=[])
 (h:∀ Γ:Ctx P N,(∀ l,Nat.blt l 100000=true->Γ.io l=none)->CodeT Γ c ⟨hY args 0,aG4 objs⟩ (aAh Γ rs r deep objs)):MeetsS P f args objs r deep:=by
 classical
 intro w cargs ok κ ha hob hκ hinj
 obtain⟨h1,h2⟩:=ha.get
 obtain⟨hx1,hx2⟩:=aCS hx
 have hn:=aTL hn
 let Γ:Ctx P N:={ base:=w.heap.size,ok:=ok,io:=fun l=>match κ l with | some (some b)=>some b | _=>none,w0:=w,mine:=fun _=>False,lent:=fun _=>False }
 have hio:∀ l b,Γ.io l=some b↔κ l=some (some b):=by
  intro l b
  show(match κ l with | some (some b)=>some b | _=>none)=some b↔_
  cases κ l with
  | none=>simp
  | some o=>cases o <;> simp
 have hsz:(cargs++Array.replicate (fn.ntmps-cargs.size) undef).size=N:=by
  have:cargs.size=args.length:=by rw[h1];simp
  simp[this,hN];omega
 have hblt:∀ l b,κ l=some (some b)->b<w.heap.size:=by
  intro l b e
  obtain⟨o,ho,rfl⟩:=hκ l _ e
  rcases hob o ho with⟨e',_⟩ | ⟨b',cs,t,e',_,g,_⟩
  · rw[e]at e';cases e'
  · rw[e]at e';cases e'
    rcases aUn b w.heap.size with h | h
    · exact h
    · simp[aUa h]at g
 refine calls_of_wp hf hb ?_
 let ow:Nat->Own:=fun b=>if hh:∃ l,κ l=some (some b)then .lab hh.choose else .none
 have how:∀ b l,κ l=some (some b)->ow b=.lab l:=by
  intro b l e
  have hh:∃ l,κ l=some (some b):=⟨l,e⟩
  show(if hh:_ then _ else _)=_
  rw[aVk hh,hinj _ _ b hh.choose_spec e]
 have how2:∀ b,ow b≠.none->∃ l,κ l=some (some b):=by
  intro b hb'
  rcases aUR (∃ l,κ l=some (some b))with hh | hh
  · exact hh
  · exfalso;apply hb'
    show(if hh:_ then _ else _)=_
    rw[aVl hh]
 have hsim:Sim Γ ⟨hY args 0,aG4 objs⟩ { tmps:=cargs++Array.replicate (fn.ntmps-cargs.size) undef,defers:=[] } w:=by
  refine⟨ow,κ,{ size:=hsz,defers:=rfl,kept:=⟨rfl,rfl,rfl,aTn _,fun _ _ _ _=>rfl,fun b _ _ cs t h=>⟨cs,h,rfl⟩⟩,slots:=fun k=>?_,objs:=fun l ob hl=>?_,gone:=fun l hl=>?_,own:=fun b hb=>?_,ios:=fun l b hl _=>(hio l b).1 hl,fresh:=fun l b hl hi=>?_ }⟩
  · rw[nA]
    by_cases hk:k<args.length
    · rw[aTd ⟨aT9 _,by simpa using hk⟩]
      obtain⟨B,g1,g2⟩:=h2 k hk
      have hB:∀ b∈B,∀ l,ow b≠.lab l:=by
       intro b hb l e
       obtain⟨l',e'⟩:=how2 b (by rw[e];simp)
       obtain⟨o,ho,rfl⟩:=hκ l' _ e'
       rcases hob o ho with⟨e2,_⟩ | ⟨b',cs,t,e2,hnok,_⟩
       · rw[e']at e2;cases e2
       · rw[e']at e2;cases e2;exact hnok (g2 b hb)
      refine⟨B,?_,fun b hb=>⟨aWt _ _ _ g1 b hb,.inl (g2 b hb),hB b hb⟩,by simp⟩
      have e:(cargs++Array.replicate (fn.ntmps-cargs.size) undef).getD k undef=cargs.toList.getD k undef:=by
       have hlt:k<cargs.size:=by rw[h1]at hk;simpa using hk
       simp[aTy,aUl,hlt,aTt]
      rw[e]
      simpa only[aUU]using g1
    · rw[aTc (by simpa using hk)]
      exact⟨[],by simp[RelV],by simp,by simp⟩
  · rcases aE7 (os:=objs) (l:=l)with⟨g1,_⟩ | ⟨o,ho,rfl,g1⟩
    · simp only[g1]at hl;cases hl
    · simp only[g1]at hl;cases hl
      rcases hob o ho with⟨e1,e2⟩ | ⟨b,cs,t,e1,_,e3,B,e4,e5⟩
      · exact⟨[],by simp,by simp,.inl ⟨e1,e2,rfl⟩⟩
      · refine⟨B,fun x hx=>⟨RelL.below _ _ _ _ e4 x hx,.inl (e5 x hx),fun l e=>?_⟩,by simp,.inr ⟨b,cs,t,e1,how b _ e1,e3,by simpa using e4⟩⟩
        obtain⟨l',e'⟩:=how2 x (by rw[e];simp)
        obtain⟨o',ho',rfl⟩:=hκ l' _ e'
        rcases hob o' ho' with⟨e2,_⟩ | ⟨b',cs',t',e2,hnok,_⟩
        · rw[e']at e2;cases e2
        · rw[e']at e2;cases e2;exact hnok (e5 x hx)
  · cases hk:κ l with
    | none=>rfl
    | some o =>
     obtain⟨x,hx,rfl⟩:=hκ l o hk
     rcases aE7 (os:=objs) (l:=x.l)with⟨_,g2⟩ | ⟨_,_,_,g1⟩
     · exact absurd rfl (g2 x hx)
     · simp only[g1]at hl;cases hl
  · obtain⟨l,e⟩:=how2 b hb
    exact⟨hblt l b e,.inr ⟨l,how b l e,(hio l b).2 e⟩⟩
  · rw[(hio l b).2 hl]at hi;cases hi
 have hioN:∀ l,Nat.blt l 100000=true->Γ.io l=none:=by
  intro l hl
  have hl:=(aT _ _).1 hl
  cases hi:Γ.io l with
  | none=>rfl
  | some b =>
   obtain⟨o,ho,rfl⟩:=hκ l _ ((hio l b).1 hi)
   have:=hx1 o ho;omega
 refine wp_mono (h Γ hioN _ _ hsim) fun e a' w' ⟨E',hs',hq⟩=>?_
 have fin:RetX Γ rs E' r deep objs->a'.defers=[]/\∃ v,(results fn a'.tmps).run P w'=.ok v w'/\∃ c B,Ending.returned v=.returned c/\Same w w'/\(∀ b,b<w.heap.size->(∀ l,κ l≠some (some b))->w'.heap[b]?=w.heap[b]?)/\(∀ o∈objs,aPj w w' ok κ o)/\
  RelV w'.heap dead r c B/\(∀ b∈B,ok b\/w.heap.size<=b)/\(deep=true->B.Nodup/\∀ b∈B,w.heap.size<=b/\fP w' b):=by
  rintro⟨hr,hr2⟩
  obtain⟨c,B,g1,g2,g3,g4⟩:=hr fn hrs a' w' hs'
  obtain⟨E2,⟨ow2,β2,hs2⟩,hr2⟩:=hr2 a' w' hs'
  refine⟨hs2.defers,c,g1,c,B,rfl,⟨hs2.kept.os,hs2.kept.output,hs2.kept.tape,hs2.kept.size⟩,fun b hb hn=>hs2.kept.old b hb (fun l e=>hn l ((hio l b).1 e)) (fun h=>h),fun o ho=>⟨fun e=>?_,fun b e cs t hc=>?_⟩,g2,fun b hb=>(g3 b hb).2.imp id (fun h=>(h.elim id False.elim:Γ.nww b).elim id False.elim),fun hd=>⟨(g4 hd).1,fun b hb=>⟨(((g4 hd).2 b hb).2.elim id False.elim:Γ.nww b).elim id False.elim,((g4 hd).2 b hb).1⟩⟩⟩
  · refine hnil o ho ?_
    rcases hob o ho with⟨_,e2⟩ | ⟨b,_,_,e2,_⟩
    · exact e2
    · rw[e]at e2;cases e2
  · obtain⟨dp,hl⟩:=hr2 o ho
    obtain⟨Bo,k1,_,k3⟩:=hs2.objs o.l _ hl
    have hβ:=hs2.ios o.l b ((hio o.l b).2 e) (by rw[hl];rfl)
    rcases k3 with⟨k4,_⟩ | ⟨b',cs',t',k4,k5,k6,k7⟩
    · rw[hβ]at k4;cases k4
    · rw[hβ]at k4;cases k4
      obtain⟨cs2,q1,q2⟩:=hs2.kept.ios b (hblt _ _ e) (fun h=>h) cs t hc
      rw[k6]at q1;cases q1
      exact⟨cs',k6,q2,Bo,by simpa using k7,fun x hx=>(k1 x hx).2.1.imp id (fun h=>(h.elim id False.elim:Γ.nww x).elim id False.elim)⟩
 cases e with
 | normal=>exact fin hq
 | ret=>exact fin hq
 | exit id=>exact hq.elim
 | goto l=>exact hq.elim
 | panic ch=>exact hq.elim
 | outgrown=>exact hq.elim
end
section
variable {P:Program}{N:Nat}{Γ:Ctx P N}{S:List (Nat×Slot)}{O:List (Nat×Option Ob)}{ow:Nat->Own}{β:Nat->Option (Option Nat)}{F:Env}{a:Act}{w:World}
theorem SimG.rewriteManyS (h:SimG Γ ow β F a w){w':World}(hw:Same w w')(us:List (Nat×Option Ob))(hother:∀ b,b<w.heap.size->(∀ l∈us.map (·.1),β l≠some (some b))->w'.heap[b]?=w.heap[b]?)
 (hnew:∀ l∈us.map (·.1),∃ ob,lo us l=some ob/\ob.box=false/\ob.deep=false/\((β l=some none/\ob.cells=[])\/∃ b cs cs' t,β l=some (some b)/\w.heap[b]?=some (.cells cs t (0,0))/\w'.heap[b]?=some (.cells cs' t (0,0))/\cs'.size=cs.size/\∃ B,RelL w'.heap true dead ob.cells cs' 0 B/\∀ b∈B,Im Γ ow w' b)) :
 SimG Γ ow β (F.app ⟨[],us⟩) a w':=by
 have hImh:∀ b,Im Γ ow w b->w'.heap[b]?=w.heap[b]?:=fun b hb=>hother b hb.1 (fun l _ e=>hb.2.2 l (h.lab_ne e))
 have hIm:∀ b,Im Γ ow w b->Im Γ ow w' b:=fun b ⟨h1,h2,h3⟩=>⟨aTp h1 hw.size,h2,h3⟩
 have hFree:∀ b,Im Γ ow w b->fP w b->fP w' b:=fun b hb ⟨c,t,hc⟩=>⟨c,t,by rw[hImh b hb];exact hc⟩
 have hshape:∀ m b,β m=some (some b)->aB6 w.heap w'.heap b:=by
  intro m b e c t hc
  by_cases hm:m∈us.map (·.1)
  · obtain⟨ob,_,_,_,g⟩:=hnew m hm
    rcases g with⟨g,_⟩ | ⟨b',cs,cs',t',g1,g2,g3,g4,_⟩
    · rw[e]at g;cases g
    · rw[e]at g1;cases g1
      rw[g2]at hc;cases hc
      exact⟨cs',g3,g4⟩
  · refine⟨c,?_,rfl⟩
    rw[hother b (h.block_lt e) (fun l hl e'=>hm ?_)];exact hc
    have e1:=h.lab_ne e
    have e2:=h.lab_ne e'
    rw[e1]at e2;cases e2;exact hl
 have hkeep:∀ m,KeepB w.heap w'.heap β β m:=fun m o ho=>⟨ho,fun b hob=>by subst hob;exact hshape m b ho⟩
 refine { size:=h.size,defers:=h.defers,kept:=?_,slots:=fun k=>?_,objs:=fun m ob hm=>?_,gone:=fun m hm=>?_,own:=fun b hb=>?_,ios:=fun m b hm hs=>?_,fresh:=h.fresh }
 · refine⟨hw.os.trans h.kept.os,hw.output.trans h.kept.output,hw.tape.trans h.kept.tape,aTr h.kept.size hw.size,fun b h1 h2 hmi=>?_,fun b h1 hmi c t h2=>?_⟩
   · refine(hother b (aTp h1 h.kept.size) (fun l _ e=>?_)).trans (h.kept.old b h1 h2 hmi)
     cases hi:Γ.io l with
     | none =>
      rcases h.fresh l b e hi with g | g
      · omega
      · exact hmi g
     | some b' =>
      have hs:(lo F.o l).isSome=true:=by
       cases ho:lo F.o l with
       | none=>rw[h.gone l ho]at e;cases e
       | some _=>rfl
      have:=h.ios l b' hi hs
      rw[e]at this;cases this
      exact h2 l hi
   · obtain⟨c',h3,h4⟩:=h.kept.ios b h1 hmi c t h2
     rcases aUR (∃ m,β m=some (some b))with⟨m,hm⟩ | hm
     · obtain⟨c'',h5,h6⟩:=hshape m b hm c' t h3
       exact⟨c'',h5,h6.trans h4⟩
     · exact⟨c',by rw[hother b (aTp h1 h.kept.size) (fun l _ e=>hm ⟨l,e⟩)];exact h3,h4⟩
 · obtain⟨B,g1,g2,g3⟩:=h.slots k
   exact⟨B,aWl _ _ _ (fun m _=>hkeep m) (fun b hb=>hImh b (g2 b hb)) g1,fun b hb=>hIm b (g2 b hb),fun hd=>⟨(g3 hd).1,fun b hb=>⟨((g3 hd).2 b hb).1,hFree b (g2 b hb) ((g3 hd).2 b hb).2⟩⟩⟩
 · by_cases hmu:m∈us.map (·.1)
   · simp only[Env.app]at hm
     rw[cF _ _ _ hmu]at hm
     obtain⟨ob',e1,e2,e3,g⟩:=hnew m hmu
     rw[e1]at hm;cases hm
     rcases g with⟨g1,g2⟩ | ⟨b,cs,cs',t,g1,g2,g3,g4,B,g5,g6⟩
     · exact⟨[],by simp,by simp,.inl ⟨g1,g2,rfl⟩⟩
     · exact⟨B,g6,(fun hd=>by rw[e3]at hd;cases hd),.inr ⟨b,cs',t,g1,h.lab_ne g1,g3,by rw[e2];simpa using g5⟩⟩
   · simp only[Env.app]at hm
     rw[bH _ _ _ hmu]at hm
     obtain⟨B,g1,g2,g3⟩:=h.objs m ob hm
     refine⟨B,fun b hb=>hIm b (g1 b hb),fun hd=>⟨(g2 hd).1,fun b hb=>⟨((g2 hd).2 b hb).1,hFree b (g1 b hb) ((g2 hd).2 b hb).2⟩⟩,?_⟩
     rcases g3 with g3 | ⟨b,c,t,e1,e2,e3,e4⟩
     · exact .inl g3
     · refine .inr ⟨b,c,t,e1,e2,?_,?_⟩
       · rw[hother b (h.block_lt e1) (fun l hl e'=>hmu ?_)];exact e3
         have e5:=h.lab_ne e'
         rw[e2]at e5;cases e5;exact hl
       · cases hbx:ob.box with
         | false=>rw[hbx]at e4;exact aWk _ _ _ _ (fun _ _ l _=>aWC _ _ l) (fun b hb=>hImh b (g1 b hb)) e4
         | true=>rw[hbx]at e4;exact aWk _ _ _ _ (fun _ _ m' _=>hkeep m') (fun b hb=>hImh b (g1 b hb)) e4
 · simp only[Env.app]at hm
   by_cases hmu:m∈us.map (·.1)
   · rw[cF _ _ _ hmu]at hm
     obtain⟨ob',e1,_⟩:=hnew m hmu
     rw[e1]at hm;cases hm
   · rw[bH _ _ _ hmu]at hm;exact h.gone m hm
 · obtain⟨g1,g2⟩:=h.own b hb
   exact⟨aTp g1 hw.size,g2⟩
 · refine h.ios m b hm ?_
   simp only[Env.app]at hs
   by_cases hmu:m∈us.map (·.1)
   · obtain⟨_,_,_,_,g⟩:=hnew m hmu
     cases ho:lo F.o m with
     | none =>
      have:=h.gone m ho
      rcases g with⟨g,_⟩ | ⟨_,_,_,_,g,_⟩ <;> rw[this]at g <;> cases g
     | some _=>rfl
   · rw[bH _ _ _ hmu]at hs;exact hs
inductive ObsS (O:List (Nat×Option Ob)) (ρ:List (Nat×Nat)):List XO->List (Nat×Option Ob)->Prop
 | nil:ObsS O ρ [] []
 | cons {l:Nat} {old new:List PV} {dp:Bool} {os:List XO} {us:List (Nat×Option Ob)}:loq O (rn ρ l)=some ⟨old,dp,false⟩->ObsS O ρ os us->ObsS O ρ (⟨l,old,new⟩::os) ((rn ρ l,some ⟨new,false,false⟩)::us)
theorem ObsS.keys {ρ:List (Nat×Nat)}{os:List XO}{us:List (Nat×Option Ob)}(h:ObsS O ρ os us):us.map (·.1)=aI1 ρ os:=by
 induction h with
 | nil=>rfl
 | cons _ _ ih=>simp[aI1,ih]
theorem ObsS.get {ρ:List (Nat×Nat)}{os:List XO}{us:List (Nat×Option Ob)}(h:ObsS O ρ os us):∀ o∈os,∃ dp,loq O (rn ρ o.l)=some ⟨o.old,dp,false⟩/\True:=by
 induction h with
 | nil=>simp
 | cons h1 _ ih =>
  intro o ho
  rcases aTf.1 ho with rfl | ho
  · exact⟨_,h1,trivial⟩
  · exact ih o ho
theorem ObsS.lo {ρ:List (Nat×Nat)}{os:List XO}{us:List (Nat×Option Ob)}(h:ObsS O ρ os us)(hi:aBA ρ (aB8 os)=true):∀ o∈os,Ev.lo us (rn ρ o.l)=some ⟨o.new,false,false⟩:=by
 induction h with
 | nil=>simp
 | @cons l old new dp os us h1 _ ih =>
  intro o ho
  rw[aI]
  by_cases e:rn ρ l=rn ρ o.l
  · rw[aTd e]
    rcases aTf.1 ho with rfl | ho
    · rfl
    · simp only[aB8,aBA,aTB,aVu]at hi
      have:uE ((aB8 os).map (rn ρ)) (rn ρ l)=true:=(lJ _ _).2 (by rw[aAp,aUK];exact aTu.2 ⟨o,ho,e.symm⟩)
      rw[this]at hi;cases hi.1
  · rw[aTc e]
    rcases aTf.1 ho with rfl | ho
    · exact absurd rfl e
    · simp only[aB8,aBA,aTB]at hi
      exact ih hi.2 o ho
variable {d:Nat}{ty:TypeId}{pos:String}{af:Array Edge}{g:Option (Nat×Bool)}
theorem aQA {f:FuncId}[hfc:FnC P f]{xs:List Operand}{tus:Array TypeId}{ps:List PV}{ls:List Nat}{objs:List XO}{us:List (Nat×Option Ob)}{r:PV}{deep:Bool}(ρ:List (Nat×Nat))(ha:ArgsX S O ρ xs ps ls)(hm:MeetsS P f ps objs r deep)(hob:ObsS O ρ objs us)
 (hi:aBA ρ (aB8 objs)=true) (hc:aMR ls=true) (hr:r.labs=[]) (hd:Nat.blt d N=true) :
 Local Γ ⟨some d,.call ⟨.value (.func f),xs.toArray,tus⟩,ty,pos,af,g⟩ ⟨S,O⟩ ⟨[(d,⟨r,deep⟩)],us⟩ (pE xs) (aI1 ρ objs++ls) []:=by
 classical
 intro F hs hl _ a w ⟨ow,β,hsim⟩ Q
 have hdN:=(aT _ _).1 hd
 have hinj:=aDZ hi
 have hls:ls=[]:=by cases ls with
  | nil=>rfl
  | cons=>cases hc
 let κ:Nat->Option (Option Nat):=fun l=>if l∈aB8 objs then β (rn ρ l)else none
 have hκ1:∀ l,l∈aB8 objs->κ l=β (rn ρ l):=fun l h=>by show(if _ then _ else _)=_;rw[aTd h]
 have hκ2:∀ l o,κ l=some o->l∈aB8 objs/\β (rn ρ l)=some o:=by
  intro l o h
  rcases aUR (l∈aB8 objs)with h1 | h1
  · exact⟨h1,by rw[<- hκ1 l h1];exact h⟩
  · have:κ l=none:=by show(if _ then _ else _)=_;rw[aTc h1]
    rw[this]at h;cases h
 have hlo:∀ o∈objs,∃ dp,lo F.o (rn ρ o.l)=some ⟨o.old,dp,false⟩/\True:=by
  intro o ho
  obtain⟨dp,h1,h2⟩:=hob.get o ho
  exact⟨dp,by rw[hl _ (by simp only[aTj];left;rw[aEQ];exact aTu.2 ⟨o,ho,rfl⟩),<- bP];exact h1,h2⟩
 unfold Oper.wp
 have hrun:(execOp a.eval ⟨some d,.call ⟨.value (.func f),xs.toArray,tus⟩,ty,pos,af,g⟩).run P w=.ok (.enter f (xs.map a.eval).toArray) w:=by
  simp[execOp,resolve,Act.eval,Deferred.ofValue,invoke,hfc.run]
 rw[hrun]
 show Calls _ _ _ _ _
 have hargs:XArgs w.heap (fun b=>Im Γ ow w b\/∃ l∈ls,ow b=.lab l) κ ps (xs.map a.eval):=by
  clear hm hc hob hrun
  have key:∀ {xs:List Operand} {ps:List PV} {ls':List Nat},ArgsX S O ρ xs ps ls'->(∀ k∈pE xs,lk F.s k=lk S k)->(∀ l∈ls',l∈ls)->XArgs w.heap (fun b=>Im Γ ow w b\/∃ l∈ls,ow b=.lab l) κ ps (xs.map a.eval):=by
   intro xs ps ls' hx
   induction hx with
   | nil=>intro _ _;trivial
   | @cons x p l m xs ps h1 h2 ih =>
    intro hk hsub
    have hk1:∀ k∈ors x,lk F.s k=lk S k:=fun k hk'=>hk k (by cases x <;> simp[ors,pE]at hk' ⊢;exact .inl hk')
    have hk2:∀ k∈pE xs,lk F.s k=lk S k:=fun k hk'=>hk k (by cases x <;> simp[pE,hk'])
    refine⟨?_,ih hk2 (fun l' hl'=>hsub l' (by simp[hl']))⟩
    cases h1 with
    | val hv hlb =>
     obtain⟨B,g1,g2⟩:=ArgV.rel hsim hv hk1 (fun m hm'=>hl m (by simp only[aTj];right;exact hsub m (by simp[hm'])))
     exact⟨B,g1.nolab hlb,fun b hb=>(g2 b hb).imp id fun⟨m,hm',e⟩=>⟨m,hsub m (by simp[hm']),e⟩⟩
    | io hv =>
     obtain⟨B,g1,g2⟩:=dG hsim hv hk1
     exact⟨B,uO (fun l o e=>(hκ2 l o e).2) p g1,fun b hb=>.inl (g2 b hb)⟩
  exact key ha hs (fun l h=>h)
 refine(hm w (xs.map a.eval).toArray (fun b=>Im Γ ow w b\/∃ l∈ls,ow b=.lab l) κ (by simpa using hargs) ?_ ?_ ?_).mono fun e w' ⟨c,B,he,hsame,hoth,hpost,h1,h2,h3⟩=>?_
 · intro o ho
   obtain⟨dp,g1,g2⟩:=hlo o ho
   obtain⟨Bo,gI,_,g3⟩:=hsim.objs _ _ g1
   have hk:κ o.l=β (rn ρ o.l):=hκ1 _ (by rw[aAp];exact aTu.2 ⟨o,ho,rfl⟩)
   rcases g3 with⟨e1,e2,_⟩ | ⟨b,cs,t,e1,e2,e3,e4⟩
   · exact .inl ⟨hk.trans e1,e2⟩
   · refine .inr ⟨b,cs,t,hk.trans e1,?_,e3,Bo,by simpa using e4,fun x hx=>.inl (gI x hx)⟩
     rintro(h | ⟨m,hm',e⟩)
     · exact h.2.2 _ e2
     · rw[e2]at e;cases e
       rw[hls]at hm';cases hm'
 · intro l o e
   have:=(hκ2 l o e).1
   rw[aAp]at this
   obtain⟨x,hx,rfl⟩:=aTu.1 this
   exact⟨x,hx,rfl⟩
 · intro l l' b e e'
   obtain⟨g1,g2⟩:=hκ2 l _ e
   obtain⟨g3,g4⟩:=hκ2 l' _ e'
   have e5:=hsim.lab_ne g2
   have e6:=hsim.lab_ne g4
   rw[e5]at e6
   injection e6 with e7
   exact hinj l g1 l' g3 e7
 · subst he
   show Sim Γ _ _ _
   have hrew:SimG Γ ow β (F.app ⟨[],us⟩) a w':=by
    refine hsim.rewriteManyS hsame us (fun b hb hn=>hoth b hb (fun l e=>?_)) (fun m hm'=>?_)
    · obtain⟨g1,g2⟩:=hκ2 l _ e
      refine hn (rn ρ l) ?_ g2
      rw[hob.keys,aEQ]
      rw[aAp]at g1
      obtain⟨x,hx,rfl⟩:=aTu.1 g1
      exact aTu.2 ⟨x,hx,rfl⟩
    · rw[hob.keys,aEQ]at hm'
      obtain⟨o,ho,rfl⟩:=aTu.1 hm'
      have e1:=hob.lo hi o ho
      refine⟨_,e1,rfl,rfl,?_⟩
      obtain⟨dp',g1,g2⟩:=hlo o ho
      obtain⟨Bo,_,_,g3⟩:=hsim.objs _ _ g1
      have hk:κ o.l=β (rn ρ o.l):=hκ1 _ (by rw[aAp];exact aTu.2 ⟨o,ho,rfl⟩)
      obtain⟨p1,p2⟩:=hpost o ho
      rcases g3 with⟨e2,_⟩ | ⟨b,cs,t,e2,_,e3,_⟩
      · exact .inl ⟨e2,p1 (hk.trans e2)⟩
      · obtain⟨cs',q1,q2,B',q3,q4⟩:=p2 b (hk.trans e2) cs t e3
        refine .inr ⟨b,cs,cs',t,e2,e3,q1,q2,B',q3,fun x hx=>?_⟩
        rcases q4 x hx with(h | ⟨_,h,_⟩) | h
        · exact⟨aTp h.1 hsame.size,h.2⟩
        · rw[hls]at h;cases h
        · exact⟨RelL.below _ _ _ _ q3 x hx,.inr (.inl (.inl (aTr hsim.kept.size h))),fun l e=>by have:=(hsim.own x (by rw[e];simp)).1;omega⟩
   have hB:∀ b∈B,b<w'.heap.size:=aWt _ _ _ h1
   have hfresh:∀ b,w.heap.size<=b->b<w'.heap.size->Im Γ ow w' b:=fun b hb1 hb2=>⟨hb2,.inr (.inl (.inl (aTr hsim.kept.size hb1))),fun l e=>by have:=(hsim.own b (by rw[e];simp)).1;omega⟩
   have hkeepV:RelV w'.heap β r c B:=aWO hr h1
   have comb:∀ {ow2:Nat->Own} {a2:Act} {s:List (Nat×Slot)},SimG Γ ow2 β ((F.app ⟨[],us⟩).app ⟨s,[]⟩) a2 w'->Sim Γ (F.app ⟨s,us⟩) a2 w':=by
    intro ow2 a2 s h
    exact⟨ow2,β,h.congr (fun k=>rfl) (fun l=>rfl)⟩
   cases deep with
   | true =>
    obtain⟨n1,n2⟩:=h3 rfl
    exact comb (hrew.putDeep hdN hkeepV (fun b hb=>hfresh b (n2 b hb).1 (hB b hb)) n1 (fun b hb=>⟨(n2 b hb).2,.inl (.inl (aTr hsim.kept.size (n2 b hb).1))⟩)
     (fun b hb=>by
      cases hx:ow b with
      | none=>exact .inl rfl
      | _=>have:=(hsim.own b (by rw[hx];simp)).1;have:=(n2 b hb).1;omega))
   | false =>
    refine comb (hrew.put hdN hkeepV fun b hbB=>?_)
    rcases h2 b hbB with(h | ⟨l,hl',_⟩) | h
    · exact⟨aTp h.1 hsame.size,h.2⟩
    · rw[hls]at hl';cases hl'
    · exact hfresh b h (hB b hbB)
end
/- The engine: objects forgotten; the order of a drawn region, told by what comes before what. -/
section
variable {P:Program}{N:Nat}{Γ:Ctx P N}
theorem Ent.sub {S:List (Nat×Slot)}{O O':List (Nat×Option Ob)}(hO:∀ l ob,lo O' l=some ob->lo O l=some ob):Ent Γ ⟨S,O⟩ ⟨S,O'⟩:=by
 rintro a w ⟨ow,β,h⟩
 let f:Nat->Option Nat:=fun l=>if(lo O' l).isSome=true then some l else none
 have hf1:∀ l ob,lo O' l=some ob->f l=some l:=fun l ob e=>by show(if _ then _ else _)=_;rw[aTd (by rw[e];rfl)]
 have hf2:∀ l x,f l=some x->x=l:=fun l x e=>by
  change (if _ then _ else _)=_ at e
  split at e
  · exact(Option.some.inj e).symm
  · cases e
 let ow':Nat->Own:=fun b=>match ow b with
  | .none=>.none
  | .slot k=>.slot k
  | .obj l=>match f l with
   | some l'=>.obj l'
   | none=>.none
  | .lab l=>match f l with
   | some l'=>.lab l'
   | none=>.none
 let β':Nat->Option (Option Nat):=fun l=>if(lo O' l).isSome=true then β l else none
 have hβ':∀ l o,β' l=some o->β l=some o:=by
  intro l o e
  have e':(if(lo O' l).isSome=true then β l else none)=some o:=e
  by_cases hx:(lo O' l).isSome=true
  · rw[aTd hx]at e';exact e'
  · rw[aTc hx]at e';cases e'
 have hIm:∀ b,Im Γ ow w b->Im Γ ow' w b:=by
  rintro b ⟨h1,h2,h3⟩
  refine⟨h1,h2,fun l=>?_⟩
  show(match ow b with | .none=>_ | .slot k=>_ | .obj l=>_ | .lab l=>_)≠_
  cases hb:ow b with
  | none=>simp
  | slot k=>simp
  | obj m=>simp only;cases f m <;> simp
  | lab m=>exact absurd hb (h3 m)
 have hkeep:∀ m,KeepB w.heap w.heap β β' m:=fun m o e=>⟨hβ' m o e,fun b _ c t hc=>⟨c,hc,rfl⟩⟩
 refine⟨ow',β',{ size:=h.size,defers:=h.defers,kept:=h.kept,slots:=fun k=>?_,objs:=fun l ob hl=>?_,gone:=fun l hl=>?_,own:=fun b hb=>?_,ios:=fun l b hl hs=>?_,fresh:=fun l b hl hi=>?_ }⟩
 · obtain⟨B,g1,g2,g3⟩:=h.slots k
   refine⟨B,aWl _ _ _ (fun m _=>hkeep m) (fun _ _=>rfl) g1,fun b hb=>hIm b (g2 b hb),fun hd=>⟨(g3 hd).1,fun b hb=>⟨?_,((g3 hd).2 b hb).2⟩⟩⟩
   have e:=((g3 hd).2 b hb).1
   show(match ow b with | .none=>_ | .slot k=>_ | .obj l=>_ | .lab l=>_)=_
   rw[e]
 · obtain⟨B,g1,g2,g3⟩:=h.objs l _ (hO l ob hl)
   have eβ:β' l=β l:=by show(if _ then _ else _)=_;rw[aTd (by rw[hl];rfl)]
   refine⟨B,fun b hb=>hIm b (g1 b hb),fun hd=>⟨(g2 hd).1,fun b hb=>⟨?_,((g2 hd).2 b hb).2⟩⟩,?_⟩
   · have e:=((g2 hd).2 b hb).1
     show(match ow b with | .none=>_ | .slot k=>_ | .obj l=>_ | .lab l=>_)=_
     rw[e];simp only[hf1 l ob hl]
   · rcases g3 with⟨e1,e2,e3⟩ | ⟨b,cs,t,e1,e2,e3,e4⟩
     · exact .inl ⟨eβ.trans e1,e2,e3⟩
     · refine .inr ⟨b,cs,t,eβ.trans e1,?_,e3,?_⟩
       · show(match ow b with | .none=>_ | .slot k=>_ | .obj l=>_ | .lab l=>_)=_
         rw[e2];simp only[hf1 l ob hl]
       · cases hbx:ob.box with
         | false=>rw[hbx]at e4;exact e4
         | true=>rw[hbx]at e4;exact aWk _ _ _ _ (fun _ _ m _=>hkeep m) (fun _ _=>rfl) e4
 · show(if _ then _ else _)=_
   rw[aTc (by rw[hl];simp)]
 · have hb':ow b≠.none:=by
    intro e
    apply hb
    show(match ow b with | .none=>_ | .slot k=>_ | .obj l=>_ | .lab l=>_)=_
    rw[e]
   obtain⟨g1,g2⟩:=h.own b hb'
   refine⟨g1,?_⟩
   rcases g2 with g2 | ⟨l,g3,g4⟩
   · exact .inl g2
   · refine .inr ⟨l,?_,g4⟩
     have hb2:(match f l with | some l'=>Own.lab l' | none=>Own.none)≠.none:=by
      have:ow' b=(match f l with | some l'=>Own.lab l' | none=>Own.none):=by
       show(match ow b with | .none=>_ | .slot k=>_ | .obj l=>_ | .lab l=>_)=_
       rw[g3]
      rw[<- this];exact hb
     show(match ow b with | .none=>_ | .slot k=>_ | .obj l=>_ | .lab l=>_)=_
     rw[g3]
     simp only
     cases hx:f l with
     | none=>rw[hx]at hb2;simp at hb2
     | some l'=>rw[hf2 l l' hx]
 · show(if _ then _ else _)=_
   rw[aTd hs]
   refine h.ios l b hl ?_
   cases hx:lo O' l with
   | none=>simp only at hs;rw[hx]at hs;cases hs
   | some ob=>simp only;rw[hO l ob hx];rfl
 · exact h.fresh l b (hβ' l _ hl) hi
end
def aE0 (m:Nat)(x:Item):List Item->Nat->Bool
 | [],_=>true
 | y::r,j=>(bif m.testBit j then true else(!(wE x y)&&!(wE y x)))&&aE0 m x r (j+1)
def aO1 (masks:List Nat)(all:List Item):List Item->Nat->Bool
 | [],_=>true
 | x::r,i=>aE0 (masks.getD i 0) x (all.take i) 0&&aO1 masks all r (i+1)
theorem aGs {m:Nat}{x:Item}:∀ {l:List Item} {j:Nat},aE0 m x l j=true->aAi m x l j=true
 | [],_,_=>rfl
 | y::r,j,h=>by
  rw[aE0,aTB]at h
  rw[aAi,aTB]
  refine⟨?_,aGs h.2⟩
  have h1:=h.1
  cases hm:m.testBit j with
  | true=>cases wE x y||wE y x <;> rfl
  | false =>
   rw[hm]at h1
   simp only[cond_false,aTB,aVu]at h1
   rw[h1.1,h1.2];rfl
theorem aBI {masks:List Nat}{all:List Item}:∀ {l:List Item} {i:Nat},aO1 masks all l i=true->uY masks all l i=true
 | [],_,_=>rfl
 | x::r,i,h=>by
  rw[aO1,aTB]at h
  rw[uY,aTB]
  exact⟨aGs h.1,aBI h.2⟩
end Go.Ev
