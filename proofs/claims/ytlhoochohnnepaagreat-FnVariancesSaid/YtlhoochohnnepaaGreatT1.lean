/- Parts XD, XM. -/
import Derived.Test.YtlhoochohnnepaaGreatLd
import Derived.Test.YtlhoochohnnepaaGreatL1
set_option linter.all false
set_option maxHeartbeats 4000000
set_option maxRecDepth 20000
/- ReduceRows: what it computes. -/
namespace Go.Ev
open IntKind
open Go.Proofs
noncomputable def aNN (m:Int)(x:Rat):(Int×List Rat)->Option ((Int×List Rat) ⊕ List Rat):=fun s =>
 if s.1<m then(idx s.2 s.1).bind fun y=>(dA y x).bind fun q=>(aV (iB s.2 s.1 q)).bind fun r=>some (.inl (i64.wrap (s.1+1),r))else some (.inr s.2)
noncomputable def aMG (n:Int)(k:Int):(Int×List (List Rat))->Option ((Int×List (List Rat)) ⊕ List (List Rat)):=fun s =>
 if s.1<n then(if s.1≠k then(idx s.2 s.1).bind fun ri=>(idx s.2 k).bind fun rk=>(idx ri k).bind fun f=>(mS ri rk f).bind fun r=>(chk (r.1=true)).bind fun _ =>
  some (.inl (i64.wrap (s.1+1),iB (iB s.2 s.1 r.2.1) k r.2.2))else some (.inl (i64.wrap (s.1+1),s.2)))else some (.inr s.2)
noncomputable def aKC (n:Int):(Int×List (List Rat))->Option ((Int×List (List Rat)) ⊕ List (List Rat)):=fun s =>
 if s.1<n then(idx s.2 s.1).bind fun row=>(idx row s.1).bind fun x=>(nQ x).bind fun g=>(chk (g≠0)).bind fun _ =>
  (lp (aNN row.length x) (0,row)).bind fun row'=>(chk (row'.length=row.length)).bind fun _=>(nT row').bind fun h=>(chk (h=true)).bind fun _ =>
  (lp (aMG n s.1) (0,iB s.2 s.1 row')).bind fun R=>some (.inl (i64.wrap (s.1+1),R))else some (.inr s.2)
noncomputable def kZ (a0:List (List Rat))(a1:Int):Option (List (List Rat)×Bool) :=
 (oX a0 a1).bind fun b=>(chk (b=true/\¬a1<a0.length/\a0.length<=1000/\∀ r∈a0,r.length<=1000000)).bind fun _ =>
 (lp (aKC a0.length) (0,a0)).bind fun R=>(chk (R.length=a0.length)).bind fun _=>some (R,true)
/- ReduceRows: what it computes, and its walk, by hand. -/
open Go.Proofs
noncomputable def rrO (R:List (List Rat)):List (Nat×Option Ob):=(504,some ⟨jO List.length 3 600 R,true,true⟩)::zs (fun r=>⟨r.flatMap aE,false,false⟩) 600 R
theorem aSn (R:List (List Rat)):loq (rrO R) 504=some ⟨jO List.length 3 600 R,true,true⟩:=rfl
theorem aC0 {R:List (List Rat)}{k:Nat}{r:List Rat}(h:R[k]?=some r):loq (rrO R) (600+k)=some ⟨r.flatMap aE,false,false⟩:=by
 rw[bP,rrO,aI,aTc (by omega),aBb,aTd (by omega),show 600+k-600=k by omega,h];rfl
theorem aKD (R:List (List Rat))(l:Nat):lo (rrO R) l=if 504=l then some ⟨jO List.length 3 600 R,true,true⟩else if 600<=l then(R[l-600]?).map (fun r=>⟨r.flatMap aE,false,false⟩)else none:=by
 rw[rrO,aI,aBb]
theorem aJi {α:Type}{n:α->Nat}{s:Nat}{y:α}:∀ {R:List α} {b k:Nat} {x:α},R[k]?=some x->n x=n y->jO n s b (R.set k y)=jO n s b R
 | [],_,_,_,h,_=>by simp at h
 | r::R,b,0,x,h,e=>by simp at h;subst h;simp[jO,e]
 | r::R,b,k+1,x,h,e=>by simp only[List.set_cons_succ,jO];rw[aJi (x:=x) (by simpa using h) e]
theorem aLN {α β:Type}{n:α->Nat}{n':β->Nat}{s:Nat}:∀ {V:List α} {R:List β} {b:Nat},V.length=R.length->(∀ (i:Nat) v r,V[i]?=some v->R[i]?=some r->n v=n' r)->jO n s b V=jO n' s b R
 | [],[],_,_,_=>rfl
 | v::V,r::R,b,h,e=>by
  simp only[jO]
  rw[e 0 v r rfl rfl,aLN (by simpa using h) fun i v' r' h1 h2=>e (i+1) v' r' (by simpa using h1) (by simpa using h2)]
 | [],_::_,_,h,_=>by simp at h
 | _::_,[],_,h,_=>by simp at h
theorem Ent.slots {P:Program}{N:Nat}{Γ:Ctx P N}{S S':List (Nat×Slot)}{O O':List (Nat×Option Ob)}(hO:∀ l,lo O' l=lo O l)(hS:EntS [] S S'):Ent Γ ⟨S,O⟩ ⟨S',O'⟩:=by
 refine aWw (E2:=⟨S',O⟩) ?_ (Ent.same hO)
 rintro a w ⟨ow,β,h⟩
 refine⟨ow,β,{ size:=h.size,defers:=h.defers,kept:=h.kept,slots:=fun k=>?_,objs:=h.objs,gone:=h.gone,own:=h.own,ios:=h.ios,fresh:=h.fresh }⟩
 rcases EntS.get hS k with e | ⟨sl,dp,e1,e2,e3⟩
 · rw[aJF e];exact⟨[],by simp[RelV],by simp,by simp⟩
 · rw[fM e1]
   obtain⟨B,g1,g2,g3⟩:=h.slots k
   rw[e2]at g1 g3
   exact⟨B,g1,g2,fun hd=>g3 (e3 hd)⟩
theorem esS {S S':List (Nat×Slot)}(h:EntS [] S S':=by repeat' first | exact trivial | (refine And.intro ⟨_,rfl,fun h=>(by first | rfl | exact Bool.noConfusion h)⟩ ?_)):EntS [] S S':=h
theorem es {P:Program}{N:Nat}{Γ:Ctx P N}{S S':List (Nat×Slot)}{O O':List (Nat×Option Ob)}(hO:∀ l,lo O' l=lo O l:=by exact fun _=>rfl)(hS:EntS [] S S':=by exact esS):Ent Γ ⟨S,O⟩ ⟨S',O'⟩:=Ent.slots hO hS
theorem esL (ρ:List (Nat×Nat)){P:Program}{N:Nat}{Γ:Ctx P N}{S S':List (Nat×Slot)}{O O':List (Nat×Option Ob)}(hio:∀ l,Nat.blt l 100000=true->Γ.io l=none:=by assumption)(hρ:aNg ρ=true:=by rfl)(hi:aBA ρ (yZ O')=true:=by rfl)
 (hS:EntS ρ S S':=by repeat' first | exact trivial | (refine And.intro ⟨_,rfl,fun h=>(by first | rfl | exact Bool.noConfusion h)⟩ ?_)) (hO:EntO ρ O O':=by repeat' first | exact trivial | (refine And.intro ⟨_,rfl,fun h=>(by first | rfl | exact Bool.noConfusion h)⟩ ?_)):Ent Γ ⟨S,O⟩ ⟨S',O'⟩:=Ent.list ρ (io0 hio ρ hρ) hi hS hO
section
variable {P:Program}{N:Nat}{Γ:Ctx P N}{S:List (Nat×Slot)}{O:List (Nat×Option Ob)}{d:Nat}{ty:TypeId}{pos:String}{af:Array Edge}{g:Option (Nat×Bool)}{ops rest:List Oper}{K:List Item->Env->Prop}{acc:List Item}{gs:List Nat}
theorem ik {x i:Operand}{t e sz n by_ m r:Nat}{agg:Bool}{k:IntKind}{ob:Ob}[ht:SlT P t e][hi:TI P e sz agg by_](hm:m<n)(hrun:Run Γ ops K rest (⟨⟨[(d,⟨.ptr r (m*sz),false⟩)],[]⟩,gs++(ors x++ors i),[r],[]⟩::acc) ⟨[(d,⟨.ptr r (m*sz),false⟩)]++S,[]++O⟩)
 (hx:evq S x=some (.ref r sz 0 n):=by rfl) (ho:loq O r=some ob:=by rfl) (hix:evq S i=some (.sc (.int k (m:Int))):=by rfl) (hd:Nat.blt d N=true:=by rfl) (hgd:gd N ops S true g=some gs:=by rfl):Run Γ ops K (⟨some d,.indexAddr t x i,ty,pos,af,g⟩::rest) acc ⟨S,O⟩:=.op (aQ6 hx ho hix rfl hm hd) hgd rfl hrun
theorem dr {X:List Item->Prop}{K:Env->Prop}{E:Env}(h:K E):Run Γ ops (fun items E'=>(false=true->X items)/\K E') [] acc E:=Run.done ⟨fun h=>Bool.noConfusion h,h⟩
theorem cf {t:Nat}{x y:Code}{E:Env}{Q:Exit->Env->Prop}{dp:Bool}(h:CodeT Γ y E Q)(hk:lk E.s t=⟨.sc (.bool false),dp⟩:=by rfl):CodeT Γ (.cond (.tmp t) x y) E Q:=CodeT.condF hk h
end
abbrev b6 (n:Nat) (q:Int) (r:List (Nat×Slot)):List (Nat×Slot):=(6,vI n)::(7,vR 504 1 n)::(10,vI q)::r
theorem aMH (R:List (List Rat)):R.map (fun r=>PV.sl r.length (r.flatMap aE))=R.flatMap (mC aE):=by
 induction R with
 | nil=>rfl
 | cons v V ih=>rw[aTo,ih,aTO];rfl
theorem aIf {R:List (List Rat)}{k:Nat}{x y:List Rat}(h:R[k]?=some x)(e:x.length=y.length)(l:Nat):lo (rrO (R.set k y)) l=lo ((600+k,some ⟨y.flatMap aE,false,false⟩)::rrO R) l:=by
 have hk:=(aTH.1 h).1
 rw[aI,aKD,aKD,aJi h e]
 by_cases h1:504=l
 · subst h1;rw[aTd rfl,aTd rfl,aTc (by omega)]
 rw[aTc h1,aTc h1]
 by_cases h2:600+k=l
 · subst h2;rw[aTd rfl,aTd (by omega),show 600+k-600=k by omega,aUZ hk];rfl
 · rw[aTc h2]
   by_cases h3:600<=l
   · rw[aTd h3,aTd h3,aVS (by omega)]
   · rw[aTc h3,aTc h3]
noncomputable def rrP (x:Rat)(R:List (List Rat)):List (Nat×Option Ob):=(12,some ⟨aE x,false,false⟩)::rrO R
theorem aLJ {x:Rat}{R:List (List Rat)}{k:Nat}{r:List Rat}(h:R[k]?=some r):loq (rrP x R) (600+k)=some ⟨r.flatMap aE,false,false⟩:=by
 rw[bP,rrP,aI,aTc (by omega),<- bP];exact aC0 h
theorem aC1 {R:List (List Rat)}{k:Nat}{r:List Rat}(h:R[k]?=some r):(jO List.length 3 600 R)[(k:Nat)*1]?=some (.ref (600+k) 3 0 r.length):=by
 rw[Nat.mul_one,aFx,h];rfl
theorem aPR {x:Rat}{R:List (List Rat)}{k:Nat}{r y:List Rat}(h:R[k]?=some r)(e:r.length=y.length)(l:Nat):lo (rrP x (R.set k y)) l=lo ((600+k,some ⟨y.flatMap aE,false,false⟩)::rrP x R) l:=by
 rw[rrP,aI,aIf h e,aI,aI,rrP,aI]
 by_cases h1:12=l
 · rw[aTd h1,aTc (by omega),aTd h1]
 · rw[aTc h1,aTc h1]
theorem aPQ {x:Rat}{R:List (List Rat)}(l:Nat)(ob:Ob)(h:lo (rrO R) l=some ob):lo (rrP x R) l=some ob:=by
 rw[rrP,aI]
 by_cases h1:12=l
 · subst h1;rw[aKD,aTc (by omega),aTc (by omega)]at h;cases h
 · rw[aTc h1];exact h
theorem aL6 {O:List (Nat×Option Ob)}{k:Nat}{v:Option Ob}(h:lo O k=v)(l:Nat):lo ((k,v)::O) l=lo O l:=by
 rw[aI]
 by_cases e:k=l
 · rw[aTd e,<- e,h]
 · rw[aTc e]
theorem aGA {a b:Nat}(h:a≠b):Nat.beq a b=false:=by rw[kR,aU9];exact h
theorem aNO (R:List (List Rat)){d:Nat}(h:d<504):rI (rrO R) d=false:=by
 rw[rrO,rI,aFl (fun _=>rfl) (by omega)]
 have e:=aGA (a:=d) (b:=777777777) (by omega)
 simp[aDK List.length 3 R 600 (d:=d) (.inl (by omega)),e]
theorem aNW {R:List (List Rat)}{k:Nat}{p:PV}(h:(jO List.length 3 600 R)[k*1]?=some p):Nat.ble (k*1+1) (jO List.length 3 600 R).length=true/\(jO List.length 3 600 R).take (k*1)++[p]++(jO List.length 3 600 R).drop (k*1+1)=jO List.length 3 600 R:=by
 rw[Nat.mul_one]at h ⊢
 obtain⟨h1,h2⟩:=aTH.1 h
 refine⟨Nat.ble_eq▸h1,?_⟩
 rw[aTx,aUk,<- h2,<- aTh h1,aT6]
theorem aPP {α:Type}{R:List α}{k:Nat}{x:α}(h:R[k]?=some x):R.set k x=R:=by
 obtain⟨h1,h2⟩:=aTH.1 h
 rw[<- h2,aV5]
section
attribute [local irreducible] CodeT Ent Meets MeetsX MeetsS Local pC Res1 RetIs RetX Sim OpT aEp NoLab vC lS aCx Cut aAL aAh uC aG2 XEnv XRet
def aOY (v:List Value):List PV:=[.sl (v.length / 3) (v.map PV.sc)]
theorem aJZ (V:List (List Value)):V.map (fun v=>PV.sl (v.length / 3) (v.map PV.sc))=V.flatMap aOY:=by
 induction V with
 | nil=>rfl
 | cons v V ih=>rw[aTo,ih,aTO];rfl
def rwV (v:List Value):PV:=.rw 3 (v.length / 3) (v.map PV.sc)
theorem aHP:∀ v:List Value,jK (v.map PV.sc)=true
 | []=>rfl
 | x::v=>by simpa [jK]using aHP v
theorem aSj {V:List (List Value)}{k:Nat}(h:k<V.length):(V.take k).map rwV++[.rw 3 (V[k].length / 3) (V[k].map PV.sc)]=(V.take (k+1)).map rwV:=by
 rw[aVL,aTl h];simp only[Option.toList,aUc,aTo,aT8,rwV]
theorem aDh (a0:List (List Rat))(a1:Int)(r:List (List Rat)×Bool)(H:kZ a0 a1=some r):Meets Tryz.prog 94 [.sl a0.length (a0.flatMap (mC aE)),.sc (.int .i64 a1)] (.tup [.sl r.1.length (r.1.flatMap (mC aE)),.sc (.bool r.2)]) false:=by
 unfold kZ at H
 obtain⟨b,hb,H1⟩:=aB H
 obtain⟨_,hck,H2⟩:=aB H1
 obtain⟨R,hR,H3⟩:=aB H2
 obtain⟨_,hlen,H4⟩:=aB H3
 clear H H1 H2 H3
 obtain⟨hb1,hb2,hb3,hb4⟩:=bI hck
 have hlen:=bI hlen
 cases H4
 subst hb1
 clear hck
 refine Meets.introW (N:=145) (rs:=#[.tmp 4,.tmp 5]) Tryz.func94 rfl rfl rfl rfl rfl ?_
 intro Γ cs hcs hio hle hi0 hold
 match cs,hcs with
 | [c0,c1],_ =>
 have h0:=hold 0 _ c0 rfl rfl
 obtain⟨V,hV1,hV2,hV3⟩:=OldF.rowsZ (sz:=3) (fun _=>rfl) (by decide) (fun _=>rfl) h0
 apply g1
 refine q2 ?_
 apply n1
 refine sW ?_
 refine aPn ?_
 refine aGE ?_
 apply n2
 refine q2 ?_
 refine cS ?_ (av (av .nil)) (aAY _ hb)
 refine aMr ?_
 refine q3 ?_
 refine aHS ?_
 refine aIU ?_
 apply dx
 refine CodeT.cond rfl (fun h=>absurd (aTM h) hb2) (fun _=>?_)
 apply aWQ
 apply x3
 refine aWf (E':=⟨[(0,⟨.was c0 (.sl V.length (V.flatMap aOY)),false⟩),(6,vI a0.length)],[]⟩) ?_ ?_
 · refine aWw (Ent.sleep (k:=0) (c:=c0) rfl) ?_
   rw[aJZ]at hV3
   refine aWw (Ent.wake (k:=0) rfl hV3) ?_
   exact esL []
 clear hb hold h0
 rw[aJZ]at hV3
 have hV4:V.length<=1000:=by omega
 apply g1
 refine eG ?_
 refine aGE ?_
 apply dx
 apply sq
 apply g1
 refine sW ?_
 refine aPn ?_
 refine sW ?_
 apply dx
 apply aWL
 refine CodeT.loop (fun n E=>∃ k:Nat,n=V.length-k/\k<=V.length/\E=⟨[(6,vI a0.length),(7,vR 504 1 k),(27,⟨.sl V.length (V.flatMap aOY),false⟩),(28,vI V.length),(29,vI k)],[(504,vO ((V.take k).map rwV) true false)]⟩) V.length ⟨[(6,vI a0.length),(7,vR 504 1 0),(27,⟨.sl V.length (V.flatMap aOY),false⟩),(28,vI V.length),(29,vI (0:Nat))],[(504,vO [] true false)]⟩ ?_ ⟨0,rfl,aT9 _,rfl⟩ ?_
 · exact esL [(504,26)]
 · rintro m E ⟨k,rfl,hk,rfl⟩
   apply sq
   apply rg
   refine aHS ?_
   refine dr ?_
   apply x3
   apply sq
   refine CodeT.cond rfl (fun h=>?_) (fun h=>?_)
   · apply aWQ
     apply x3
     have hk2:k<V.length:=by have:=aTM h;omega
     have hid:idx V (k:Int)=some V[k]:=by unfold idx;rw[aTd (by omega),aTJ];exact aTl hk2
     have hvl:V[k].length=V[k].length / 3*3/\V[k].length / 3<=1000000:=by
      have hk3:k<a0.length:=by omega
      have:=(hV2 k V[k] a0[k] (aTl hk2) (aTl hk3)).length
      rw[aS (sz:=3) (fun _=>rfl)]at this
      have:=hb4 a0[k] (aTv hk3)
      omega
     apply sq
     apply aWL
     apply g1
     refine aPo ?_ hid
     refine aQ0 ?_
     refine aGE ?_
     apply dx
     apply rg
     refine sW ?_
     refine eG ?_
     refine sW ?_
     apply aWa;(apply aWN 36;apply aA6 true;rfl;rfl;rfl;rfl;(simp only[aTs];exact hvl.1);omega;omega;(exact⟨io1 hio _,io1 hio _⟩);(intro _;exact aHP _);(exact⟨aTi _,aTC _⟩);rfl;rfl;rfl;(exact io1 hio _);rfl);rfl;rfl
     apply aWa;(apply aPC;rfl;rfl;rfl;rfl;rfl;rfl;rfl;rfl);rfl;rfl
     have hle3:(List.take k V).length=k:=by rw[aTS];omega
     apply aWa;(apply aPD;rfl;rfl;rfl;(rw[aTs,hle3,Nat.mul_one]);rfl;omega;omega;(exact⟨io1 hio _,io1 hio _⟩);(exact⟨aSj hk2,rfl⟩);rfl);rfl;rfl
     refine aGE ?_
     refine dr ?_
     apply x5
     apply x3
     apply rg
     refine nG ?_ (hr:=w64 (n:=(k:Int)+1) (by omega))
     refine sW ?_
     refine dr ?_
     refine x14 (V.length-(k+1)) ⟨[(6,vI a0.length),(7,vR 504 1 (k+1)),(27,⟨.sl V.length (V.flatMap aOY),false⟩),(28,vI V.length),(29,vI (k+1:Nat))],[(504,vO ((V.take (k+1)).map rwV) true false)]⟩ (by omega) ?_ ⟨k+1,rfl,hk2,rfl⟩
     exact esL [(504,38)]
   · apply CodeT.exit
     apply x2
     apply x9
     apply x6 rfl
     apply x3
     have hk3:k=V.length:=by have:=aVg h;omega
     subst hk3
     rw[aUz]
     refine aWf (E':=⟨[(6,vI a0.length),(7,vR 504 1 a0.length)],rrO a0⟩) ?_ ?_
     · rw[<- hV1]
       refine aWw (E2:=⟨[(6,vI V.length),(7,vR 504 1 V.length)],[(504,some ⟨V.map rwV,true,false⟩)]⟩) ?_ ?_
       · exact esL []
       refine aWw (Ent.unpackZ (T:=504) (b:=600) (s:=3) (n:=fun v=>v.length / 3) (V:=V) (by omega) (fun l h1 h2=>?_) (fun k=>?_) (fun l _ h2=>io1 hio l ((aT _ _).2 (by omega))) hle (by omega)) ?_
       · have e1:Nat.beq l 777777777=false:=by rw[kR,aU9];omega
         have e2:Nat.beq 504 l=false:=by rw[kR,aU9];omega
         have e3:Nat.beq l 504=false:=by rw[kR,aU9];omega
         simp[aCh,zS,aAZ,PV.labs,uE,e1,e2,e3]
         try omega
       · show yV (bif Nat.beq 6 k then _ else bif Nat.beq 7 k then _ else _)=true
         cases Nat.beq 6 k <;> cases Nat.beq 7 k <;> rfl
       refine aWw (Ent.wakeZ (T:=504) (enc:=fun r=>r.flatMap aE) (R:=a0) (by omega) hV1 hV2) ?_
       have e4:jO (fun v:List Value=>v.length / 3) 3 600 V=jO List.length 3 600 a0:=aLN hV1 (fun i v r h1 h2=>by
        have:=(hV2 i v r h1 h2).length
        rw[aS (sz:=3) (fun _=>rfl)]at this;omega)
       rw[e4]
       exact Ent.same fun _=>rfl
     clear hV3 hV4 hk h hV1 hV2 hcs
     apply sq
     apply g1
     refine aGE ?_
     apply dx
     apply aWL
     refine aWF (fun s:Int×List (List Rat)=>⟨b6 a0.length s.1 [],rrO s.2⟩) (fun x e E=>XEnv Γ (.exit 2) ⟨[(6,vI a0.length),(7,vR 504 1 a0.length)],rrO x⟩ e E) hR ?_ ?_ ?_
     · exact es
     · rintro⟨k,T⟩ o hst
       unfold aKC at hst
       simp only at hst
       apply sq
       apply sq
       apply rg
       refine q2 ?_
       refine aHS ?_
       refine dr ?_
       apply x3
       refine CodeT.cond rfl (fun h=>?_) (fun h=>?_)
       · rw[aTd (aTM h)]at hst
         apply aWQ
         apply x3
         have hk0:k<(a0.length:Int):=aTM h
         clear h
         obtain⟨row,hrow,H1⟩:=aB hst
         obtain⟨x,hx,H2⟩:=aB H1
         obtain⟨g,hg,H3⟩:=aB H2
         obtain⟨_,hg0,H4⟩:=aB H3
         obtain⟨row',hJ,H5⟩:=aB H4
         obtain⟨_,hrl,H6⟩:=aB H5
         obtain⟨b,hgr,H7⟩:=aB H6
         obtain⟨_,hb1,H8⟩:=aB H7
         obtain⟨R',hI,H9⟩:=aB H8
         clear H1 H2 H3 H4 H5 H6 H7 H8 hst
         have hg0:=bI hg0
         have hrl:=bI hrl
         have hb1:=bI hb1
         subst hb1
         cases H9
         obtain⟨hk1,hk2,hk3⟩:=aD0 hrow
         obtain⟨q,rfl⟩:∃ q:Nat,k=(q:Int):=⟨k.toNat,by omega⟩
         rw[aTJ]at hk2 hk3
         have hq:q<a0.length:=by omega
         have hT:=aC1 hk2
         have hO:=aC0 hk2
         apply sq
         apply aWL
         apply g1
         refine q2 ?_
         apply dx
         apply sq
         apply aWL
         refine CodeT.loop (fun _ E=>E=⟨b6 a0.length q [(11,vI (q:Int))],rrO T⟩) 0 _ ?_ rfl ?_
         · exact es
         rintro _ E rfl
         apply sq
         apply sq
         apply rg
         refine q2 ?_
         refine aKi (aPx rfl rfl rfl) rfl (fun _=>?_) (fun h=>absurd hk0 h)
         refine q3 ?_
         refine ik hq ?_
         refine sX ?_ (hc:=hT)
         refine sW ?_
         refine gL ?_ hx (ho:=hO)
         refine sL ?_ (ho:=hO) (hc:=by exact qG hx (fun _=>rfl))
         refine cS ?_ (av .nil) (aBs _ hg)
         refine aKi (aMw rfl rfl rfl) rfl (fun h=>absurd h hg0) (fun _=>?_)
         refine aIT ?_
         refine dr ?_
         apply x3
         refine cf ?_
         apply CodeT.exit
         apply x2
         apply x9
         apply x6 rfl
         apply x3
         refine aWf (E':=⟨b6 a0.length q [(11,vI (q:Int))],rrO T⟩) (es) ?_
         apply sq
         apply g1
         refine q2 ?_
         refine aKi (aMw rfl rfl rfl) rfl (fun h=>absurd h (by omega)) (fun _=>?_)
         apply dx
         refine cf ?_
         apply aWQ
         apply x3
         obtain⟨hp1,hp2⟩:=aNW hT
         have hs:(loq (rrO T) (600+q)).isSome=true:=by rw[hO];rfl
         have hs2:∀ v,(loq ((504,v)::rrO T) (600+q)).isSome=true:=fun v=>by rw[bP,aI,aTc (by omega),<- bP];exact hs
         apply g1
         iterate 6 (refine sW ?_)
         refine ik hq ?_
         refine sX ?_ (hc:=hT)
         refine q2 ?_
         refine ik hq ?_
         refine sX ?_ (hc:=hT)
         refine ik hq ?_
         refine bF ?_ (hst:=by exact hs) (hk:=by exact hp1) (hc:=by exact hp2)
         refine ik hq ?_
         refine bF ?_ (hst:=by exact hs2 _) (hk:=by exact hp1) (hc:=by exact hp2)
         refine Run.done ⟨fun _=>⟨aBI (by rfl),by rfl⟩,?_⟩
         apply x3
         have hT0:lo (rrO T) 504=some ⟨jO List.length 3 600 T,true,true⟩:=by rw[<- bP];exact aSn T
         refine aWf (E':=⟨b6 a0.length q [],rrO T⟩) (es (fun l=>(Eq.trans (aL6 (O:=(504,some ⟨jO List.length 3 600 T,true,true⟩)::rrO T) (k:=504) (v:=some ⟨jO List.length 3 600 T,true,true⟩) rfl l) (aL6 hT0 l)).symm)) ?_
         have e12:Nat.beq (600+q) 12=false:=aGA (by omega)
         have n1:aAg (aE x)=[]:=rfl
         have n2:Nat.beq 12 777777777=false:=aGA (by omega)
         have n4:Nat.beq 504 12=false:=aGA (by omega)
         have n3:uE ([]:List Nat) 12=false:=rfl
         have s12:=aNO T (d:=12) (by omega)
         apply g1
         refine q2 ?_
         refine ik hq ?_
         refine sX ?_ (hc:=hT)
         refine sW ?_
         refine gL ?_ hx (ho:=hO)
         refine sL ?_ (ho:=hO) (hc:=by exact qG hx (fun _=>rfl))
         refine aF false ?_ (hno:=by simp[mM,sD,aCh,zS,aAZ,PV.labs,uE,yV,strip,e12,s12,n1,n2,n3,n4])
         refine bF (cells':=aE x) ?_
         refine dx ?_
         have hset:=aPP hk2
         refine aWf (E':=⟨b6 a0.length q [(12,vP 12 0)],rrP x T⟩) (es (fun l=>by
          show lo (rrP x T) l=lo ((12,some ⟨aE x,false,false⟩)::(12,_)::rrO T) l
          rw[rrP,aI,aI,aI];split <;> rfl)) ?_
         apply sq
         apply g1
         refine q2 ?_
         refine ik hq ?_
         refine sX ?_ (hc:=hT)
         refine sK ?_ (ho:=aLJ hk2)
         refine sW ?_
         apply dx
         apply aWL
         refine aWF (fun s:Int×List Rat=>⟨b6 a0.length q [(12,vP 12 0),(90,vI row.length),(91,vI s.1)],rrP x (T.set q s.2)⟩) (fun y e E=>XEnv Γ (.exit 6) ⟨b6 a0.length q [],rrO (T.set q y)⟩ e E) hJ ?_ ?_ ?_
         · refine es (fun l=>?_)
           simp only[hset]
           rfl
         · rintro⟨j,Rw⟩ o hst
           unfold aNN at hst
           simp only at hst
           have hw:(T.set q Rw)[q]?=some Rw:=aUZ hk3
           have hwT:=aC1 hw
           have hwO:=aLJ (x:=x) hw
           apply sq
           apply rg
           refine aHS ?_
           refine dr ?_
           apply x3
           apply sq
           refine CodeT.cond rfl (fun h=>?_) (fun h=>?_)
           · rw[aTd (aTM h)]at hst
             obtain⟨y,hy,H1⟩:=aB hst
             obtain⟨qv,hqv,H2⟩:=aB H1
             obtain⟨r,hr,H3⟩:=aB H2
             cases H3
             have hl:=gM hr
             apply aWQ
             apply x3
             apply sq
             apply aWL
             apply g1
             refine q2 ?_
             apply dx
             apply rg
             refine q2 ?_
             refine ik hq ?_
             refine sX ?_ (hc:=hwT)
             refine q3 ?_
             refine ik hq ?_
             refine sX ?_ (hc:=hwT)
             refine sW ?_
             refine gL ?_ hy (ho:=hwO)
             refine sL ?_ (ho:=hwO) (hc:=by exact qG hy (fun _=>rfl))
             refine sL ?_
             refine cS ?_ (av (av .nil)) (rM _ hqv)
             refine gL ?_ hy (ho:=hwO)
             apply aWa;(apply aWH (wZ (sz:=3) (encw:=aG) (enc:=aE) hr hy (fun _=>rfl) (aO _));apply aGK;rfl;exact hwO;rfl;rfl;rfl;rfl;(intro h;cases h);(exact rB 3 3 hy);rfl);rfl;rfl
             refine Run.done ⟨fun _=>⟨aBI (by rfl),by rfl⟩,?_⟩
             apply x5
             apply x3
             apply rg
             refine nG ?_
             refine sW ?_
             refine dr ?_
             apply Ev.y1
             refine es (fun l=>?_)
             show lo (rrP x (T.set q r)) l=lo ((600+q,some ⟨r.flatMap aE,false,false⟩)::rrP x (T.set q Rw)) l
             rw[<- aPR hw hl.symm,List.set_set]
           · rw[aTc (aVg h)]at hst
             cases hst
             apply CodeT.exit
             apply x2
             apply Ev.y3
             refine XEnv.mk ?_
             refine aWw (E2:=⟨b6 a0.length q [],rrP x (T.set q Rw)⟩) (es) (Ent.sub aPQ)
         · rintro e E' he
           obtain⟨rfl,he2⟩:=he.out
           clear he
           apply x6 rfl
           apply x3
           refine aWf he2 ?_
           have hw:(T.set q row')[q]?=some row':=aUZ hk3
           have hwT:=aC1 hw
           have hwO:=aC0 hw
           apply sq
           apply g1
           refine q2 ?_
           refine ik hq ?_
           refine sX ?_ (hc:=hwT)
           refine cS ?_ (ar .nil (ho:=hwO)) (xR _ hgr)
           refine aMr ?_
           apply dx
           refine cf ?_
           apply aWQ
           apply x3
           have hsi:iB T (q:Int) row'=T.set q row':=by unfold iB;rw[aTJ]
           rw[hsi]at hI
           apply g1
           refine sW ?_
           refine sK ?_
           refine sW ?_
           apply dx
           apply aWL
           refine aWF (fun s:Int×List (List Rat)=>⟨b6 a0.length q [(117,vI a0.length),(118,vI s.1)],rrO s.2⟩) (fun y e E=>XEnv Γ (.exit 8) ⟨b6 a0.length q [],rrO y⟩ e E) hI ?_ ?_ ?_
           · exact es
           · rintro⟨i,W⟩ o hst
             unfold aMG at hst
             simp only at hst
             apply sq
             apply rg
             refine aHS ?_
             refine dr ?_
             apply x3
             apply sq
             refine CodeT.cond rfl (fun h=>?_) (fun h=>?_)
             · have hin:i<(a0.length:Int):=aTM h
               rw[aTd hin]at hst
               apply aWQ
               apply x3
               apply sq
               apply aWL
               apply g1
               refine q2 ?_
               apply dx
               apply g1
               refine q2 ?_
               refine aKi (aPw rfl rfl rfl) rfl (fun hne=>?_) (fun hne=>?_)
               · rw[aTd hne]at hst
                 obtain⟨ri,hri,H1⟩:=aB hst
                 obtain⟨rk,hrk,H2⟩:=aB H1
                 obtain⟨f,hf,H3⟩:=aB H2
                 obtain⟨r,hr,H4⟩:=aB H3
                 obtain⟨_,hr1,H5⟩:=aB H4
                 cases H5
                 have hr1:=bI hr1
                 obtain⟨i1,i2,i3⟩:=aD0 hri
                 obtain⟨_,k2,k3⟩:=aD0 hrk
                 obtain⟨p,rfl⟩:∃ p:Nat,i=(p:Int):=⟨i.toNat,by omega⟩
                 rw[aTJ]at i2 i3 k2 k3
                 have hp:p<a0.length:=by omega
                 have hpq:p≠q:=fun e=>hne (by rw[e])
                 have iT:=aC1 i2
                 have kT:=aC1 k2
                 have iO:=aC0 i2
                 have kO:=aC0 k2
                 obtain⟨l1,l2⟩:=aBw _ _ _ _ hr
                 obtain⟨rb,ra,rc⟩:=r
                 simp only at hr1 l1 l2 ⊢
                 subst hr1
                 have hinj:aBA [(100000,600+p),(100001,600+q)] [100000,100001]=true:=by
                  have e1:Nat.beq (600+q) (600+p)=false:=aGA (by omega)
                  simp[aBA,rn,uE,e1,kR]
                 refine q3 ?_
                 refine ik hp ?_
                 refine sX ?_ (hc:=iT)
                 refine q2 ?_
                 refine ik hq ?_
                 refine sX ?_ (hc:=kT)
                 refine q2 ?_
                 refine ik hp ?_
                 refine sX ?_ (hc:=iT)
                 refine sW ?_
                 refine gL ?_ hf (ho:=iO)
                 refine sL ?_ (ho:=iO) (hc:=by exact qG hf (fun _=>rfl))
                 apply aWa;(apply aQA [(100000,600+p),(100001,600+q)] (aWg (.io rfl) (aWg (.io rfl) (aWg (.val (.val rfl rfl) rfl) .nil))) (aCI _ hr) (ObsS.cons iO (ObsS.cons kO .nil)) hinj rfl rfl rfl);rfl;rfl
                 refine aMr ?_
                 refine aIT ?_
                 refine Run.done ⟨fun _=>⟨aBI (by rfl),by rfl⟩,?_⟩
                 apply x3
                 refine cf ?_
                 apply aWQ
                 apply x5
                 apply x3
                 apply rg
                 refine nG ?_
                 refine sW ?_
                 refine dr ?_
                 apply Ev.y1
                 refine es (fun l=>?_)
                 have hs1:iB (iB W (p:Int) ra) (q:Int) rc=(W.set q rc).set p ra:=by
                  unfold iB;rw[aTJ,aTJ,List.set_comm _ _ hpq]
                 have hg:(W.set q rc)[p]?=some ri:=by rw[aVS (fun e=>hpq e.symm)];exact i2
                 show lo (rrO (iB (iB W (p:Int) ra) (q:Int) rc)) l=lo ((600+p,some ⟨ra.flatMap aE,false,false⟩)::(600+q,some ⟨rc.flatMap aE,false,false⟩)::rrO W) l
                 rw[hs1,aIf hg l1.symm,aI,aI,aIf k2 l2.symm]
               · rw[aTc hne]at hst
                 cases hst
                 refine sW ?_
                 iterate 17 (refine Run.skip rfl ?_)
                 refine aIU ?_
                 refine Run.done ⟨fun _=>⟨aBI (by rfl),by rfl⟩,?_⟩
                 apply x3
                 refine cf ?_
                 apply aWQ
                 apply x5
                 apply x3
                 apply rg
                 refine nG ?_
                 refine sW ?_
                 refine dr ?_
                 apply Ev.y1
                 exact es
             · rw[aTc (aVg h)]at hst
               cases hst
               apply CodeT.exit
               apply x2
               apply Ev.y3
               refine XEnv.mk ?_
               exact es
           · rintro e E' he
             obtain⟨rfl,he2⟩:=he.out
             clear he
             apply x6 rfl
             apply x5
             apply x3
             refine aWf he2 ?_
             apply rg
             refine sW ?_
             refine nG ?_
             refine aGE ?_
             refine dr ?_
             apply Ev.y1
             exact es
       · rw[aTc (aVg h)]at hst
         cases hst
         apply CodeT.exit
         apply x2
         apply y3
         refine XEnv.mk ?_
         exact es
     · rintro e E' he
       obtain⟨rfl,he2⟩:=he.out
       clear he
       apply x6 rfl
       apply x3
       refine aWf he2 ?_
       refine aWf (Ent.absorbZ (T:=504) (b:=600) (by omega) (fun l _ h2=>io1 hio l ((aT _ _).2 (by omega)))) ?_
       rw[<- hlen,aMH]
       apply g1
       refine q3 ?_
       apply dx
       apply CodeT.ret
       apply x12
       refine aWe (aWy (k:=4) rfl rfl (io1 hio _) rfl) ?_
       exact aWi (.inl rfl) (aV8 (Res1.val rfl rfl) (aV8 (aWv rfl) aWr)) (fun h=>by first | rfl | cases h)
end
end Go.Ev
