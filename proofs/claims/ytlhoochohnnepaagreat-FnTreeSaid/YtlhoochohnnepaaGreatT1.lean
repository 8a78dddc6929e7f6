/- Parts XD, XM. -/
import Derived.Test.YtlhoochohnnepaaGreatLd
import Derived.Test.YtlhoochohnnepaaGreatL1
set_option linter.all false
set_option maxHeartbeats 4000000
set_option maxRecDepth 20000
/- ReduceRows: what it computes. -/
namespace Go.Ev
open IntKind
open Go.Proofs
noncomputable def aOg (m:Int)(x:Rat):(Int×List Rat)->Option ((Int×List Rat) ⊕ List Rat):=fun s =>
 if s.1<m then(idx s.2 s.1).bind fun y=>(dX y x).bind fun q=>(aX (nS s.2 s.1 q)).bind fun r=>some (.inl (i64.wrap (s.1+1),r))else some (.inr s.2)
noncomputable def aM5 (n:Int)(k:Int):(Int×List (List Rat))->Option ((Int×List (List Rat)) ⊕ List (List Rat)):=fun s =>
 if s.1<n then(if s.1≠k then(idx s.2 s.1).bind fun ri=>(idx s.2 k).bind fun rk=>(idx ri k).bind fun f=>(nC ri rk f).bind fun r=>(chk (r.1=true)).bind fun _ =>
  some (.inl (i64.wrap (s.1+1),nS (nS s.2 s.1 r.2.1) k r.2.2))else some (.inl (i64.wrap (s.1+1),s.2)))else some (.inr s.2)
noncomputable def aK7 (n:Int):(Int×List (List Rat))->Option ((Int×List (List Rat)) ⊕ List (List Rat)):=fun s =>
 if s.1<n then(idx s.2 s.1).bind fun row=>(idx row s.1).bind fun x=>(oF x).bind fun g=>(chk (g≠0)).bind fun _ =>
  (lp (aOg row.length x) (0,row)).bind fun row'=>(chk (row'.length=row.length)).bind fun _=>(kB row').bind fun h=>(chk (h=true)).bind fun _ =>
  (lp (aM5 n s.1) (0,nS s.2 s.1 row')).bind fun R=>some (.inl (i64.wrap (s.1+1),R))else some (.inr s.2)
noncomputable def lM (a0:List (List Rat))(a1:Int):Option (List (List Rat)×Bool) :=
 (pV a0 a1).bind fun b=>(chk (b=true/\¬a1<a0.length/\a0.length<=1000/\∀ r∈a0,r.length<=1000000)).bind fun _ =>
 (lp (aK7 a0.length) (0,a0)).bind fun R=>(chk (R.length=a0.length)).bind fun _=>some (R,true)
/- ReduceRows: what it computes, and its walk, by hand. -/
open Go.Proofs
noncomputable def rrO (R:List (List Rat)):List (Nat×Option Ob):=(504,some ⟨jZ List.length 3 600 R,true,true⟩)::zs (fun r=>⟨r.flatMap aF,false,false⟩) 600 R
theorem aSZ (R:List (List Rat)):loq (rrO R) 504=some ⟨jZ List.length 3 600 R,true,true⟩:=rfl
theorem aDF {R:List (List Rat)}{k:Nat}{r:List Rat}(h:R[k]?=some r):loq (rrO R) (600+k)=some ⟨r.flatMap aF,false,false⟩:=by
 rw[bV,rrO,aI,aTJ (by omega),aBD,aTK (by omega),show 600+k-600=k by omega,h];rfl
theorem aK8 (R:List (List Rat))(l:Nat):lo (rrO R) l=if 504=l then some ⟨jZ List.length 3 600 R,true,true⟩else if 600<=l then(R[l-600]?).map (fun r=>⟨r.flatMap aF,false,false⟩)else none:=by
 rw[rrO,aI,aBD]
theorem aJQ {α:Type}{n:α->Nat}{s:Nat}{y:α}:∀ {R:List α} {b k:Nat} {x:α},R[k]?=some x->n x=n y->jZ n s b (R.set k y)=jZ n s b R
 | [],_,_,_,h,_=>by simp at h
 | r::R,b,0,x,h,e=>by simp at h;subst h;simp[jZ,e]
 | r::R,b,k+1,x,h,e=>by simp only[List.set_cons_succ,jZ];rw[aJQ (x:=x) (by simpa using h) e]
theorem aMf {α β:Type}{n:α->Nat}{n':β->Nat}{s:Nat}:∀ {V:List α} {R:List β} {b:Nat},V.length=R.length->(∀ (i:Nat) v r,V[i]?=some v->R[i]?=some r->n v=n' r)->jZ n s b V=jZ n' s b R
 | [],[],_,_,_=>rfl
 | v::V,r::R,b,h,e=>by
  simp only[jZ]
  rw[e 0 v r rfl rfl,aMf (by simpa using h) fun i v' r' h1 h2=>e (i+1) v' r' (by simpa using h1) (by simpa using h2)]
 | [],_::_,_,h,_=>by simp at h
 | _::_,[],_,h,_=>by simp at h
theorem Ent.slots {P:Program}{N:Nat}{Γ:Ctx P N}{S S':List (Nat×Slot)}{O O':List (Nat×Option Ob)}(hO:∀ l,lo O' l=lo O l)(hS:EntS [] S S'):Ent Γ ⟨S,O⟩ ⟨S',O'⟩:=by
 refine aXc (E2:=⟨S',O⟩) ?_ (Ent.same hO)
 rintro a w ⟨ow,β,h⟩
 refine⟨ow,β,{ size:=h.size,defers:=h.defers,kept:=h.kept,slots:=fun k=>?_,objs:=h.objs,gone:=h.gone,own:=h.own,ios:=h.ios,fresh:=h.fresh }⟩
 rcases EntS.get hS k with e | ⟨sl,dp,e1,e2,e3⟩
 · rw[aKb e];exact⟨[],by simp[RelV],by simp,by simp⟩
 · rw[gA e1]
   obtain⟨B,g1,g2,g3⟩:=h.slots k
   rw[e2]at g1 g3
   exact⟨B,g1,g2,fun hd=>g3 (e3 hd)⟩
theorem esS {S S':List (Nat×Slot)}(h:EntS [] S S':=by repeat' first | exact trivial | (refine And.intro ⟨_,rfl,fun h=>(by first | rfl | exact Bool.noConfusion h)⟩ ?_)):EntS [] S S':=h
theorem es {P:Program}{N:Nat}{Γ:Ctx P N}{S S':List (Nat×Slot)}{O O':List (Nat×Option Ob)}(hO:∀ l,lo O' l=lo O l:=by exact fun _=>rfl)(hS:EntS [] S S':=by exact esS):Ent Γ ⟨S,O⟩ ⟨S',O'⟩:=Ent.slots hO hS
theorem esL (ρ:List (Nat×Nat)){P:Program}{N:Nat}{Γ:Ctx P N}{S S':List (Nat×Slot)}{O O':List (Nat×Option Ob)}(hio:∀ l,Nat.blt l 100000=true->Γ.io l=none:=by assumption)(hρ:aNJ ρ=true:=by rfl)(hi:aB5 ρ (zZ O')=true:=by rfl)
 (hS:EntS ρ S S':=by repeat' first | exact trivial | (refine And.intro ⟨_,rfl,fun h=>(by first | rfl | exact Bool.noConfusion h)⟩ ?_)) (hO:EntO ρ O O':=by repeat' first | exact trivial | (refine And.intro ⟨_,rfl,fun h=>(by first | rfl | exact Bool.noConfusion h)⟩ ?_)):Ent Γ ⟨S,O⟩ ⟨S',O'⟩:=Ent.list ρ (io0 hio ρ hρ) hi hS hO
section
variable {P:Program}{N:Nat}{Γ:Ctx P N}{S:List (Nat×Slot)}{O:List (Nat×Option Ob)}{d:Nat}{ty:TypeId}{pos:String}{af:Array Edge}{g:Option (Nat×Bool)}{ops rest:List Oper}{K:List Item->Env->Prop}{acc:List Item}{gs:List Nat}
theorem ik {x i:Operand}{t e sz n by_ m r:Nat}{agg:Bool}{k:IntKind}{ob:Ob}[ht:SlT P t e][hi:TI P e sz agg by_](hm:m<n)(hrun:Run Γ ops K rest (⟨⟨[(d,⟨.ptr r (m*sz),false⟩)],[]⟩,gs++(ors x++ors i),[r],[]⟩::acc) ⟨[(d,⟨.ptr r (m*sz),false⟩)]++S,[]++O⟩)
 (hx:evq S x=some (.ref r sz 0 n):=by rfl) (ho:loq O r=some ob:=by rfl) (hix:evq S i=some (.sc (.int k (m:Int))):=by rfl) (hd:Nat.blt d N=true:=by rfl) (hgd:gd N ops S true g=some gs:=by rfl):Run Γ ops K (⟨some d,.indexAddr t x i,ty,pos,af,g⟩::rest) acc ⟨S,O⟩:=.op (aRP hx ho hix rfl hm hd) hgd rfl hrun
theorem dr {X:List Item->Prop}{K:Env->Prop}{E:Env}(h:K E):Run Γ ops (fun items E'=>(false=true->X items)/\K E') [] acc E:=Run.done ⟨fun h=>Bool.noConfusion h,h⟩
theorem cf {t:Nat}{x y:Code}{E:Env}{Q:Exit->Env->Prop}{dp:Bool}(h:CodeT Γ y E Q)(hk:lk E.s t=⟨.sc (.bool false),dp⟩:=by rfl):CodeT Γ (.cond (.tmp t) x y) E Q:=CodeT.condF hk h
end
abbrev b6 (n:Nat) (q:Int) (r:List (Nat×Slot)):List (Nat×Slot):=(6,vI n)::(7,vR 504 1 n)::(10,vI q)::r
theorem aM6 (R:List (List Rat)):R.map (fun r=>PV.sl r.length (r.flatMap aF))=R.flatMap (uB aF):=by
 induction R with
 | nil=>rfl
 | cons v V ih=>rw[aTV,ih,aUk];rfl
theorem aIT {R:List (List Rat)}{k:Nat}{x y:List Rat}(h:R[k]?=some x)(e:x.length=y.length)(l:Nat):lo (rrO (R.set k y)) l=lo ((600+k,some ⟨y.flatMap aF,false,false⟩)::rrO R) l:=by
 have hk:=(aUc.1 h).1
 rw[aI,aK8,aK8,aJQ h e]
 by_cases h1:504=l
 · subst h1;rw[aTK rfl,aTK rfl,aTJ (by omega)]
 rw[aTJ h1,aTJ h1]
 by_cases h2:600+k=l
 · subst h2;rw[aTK rfl,aTK (by omega),show 600+k-600=k by omega,aVB hk];rfl
 · rw[aTJ h2]
   by_cases h3:600<=l
   · rw[aTK h3,aTK h3,aWx (by omega)]
   · rw[aTJ h3,aTJ h3]
noncomputable def rrP (x:Rat)(R:List (List Rat)):List (Nat×Option Ob):=(12,some ⟨aF x,false,false⟩)::rrO R
theorem aMa {x:Rat}{R:List (List Rat)}{k:Nat}{r:List Rat}(h:R[k]?=some r):loq (rrP x R) (600+k)=some ⟨r.flatMap aF,false,false⟩:=by
 rw[bV,rrP,aI,aTJ (by omega),<- bV];exact aDF h
theorem aDG {R:List (List Rat)}{k:Nat}{r:List Rat}(h:R[k]?=some r):(jZ List.length 3 600 R)[(k:Nat)*1]?=some (.ref (600+k) 3 0 r.length):=by
 rw[Nat.mul_one,aGk,h];rfl
theorem aQu {x:Rat}{R:List (List Rat)}{k:Nat}{r y:List Rat}(h:R[k]?=some r)(e:r.length=y.length)(l:Nat):lo (rrP x (R.set k y)) l=lo ((600+k,some ⟨y.flatMap aF,false,false⟩)::rrP x R) l:=by
 rw[rrP,aI,aIT h e,aI,aI,rrP,aI]
 by_cases h1:12=l
 · rw[aTK h1,aTJ (by omega),aTK h1]
 · rw[aTJ h1,aTJ h1]
theorem aQt {x:Rat}{R:List (List Rat)}(l:Nat)(ob:Ob)(h:lo (rrO R) l=some ob):lo (rrP x R) l=some ob:=by
 rw[rrP,aI]
 by_cases h1:12=l
 · subst h1;rw[aK8,aTJ (by omega),aTJ (by omega)]at h;cases h
 · rw[aTJ h1];exact h
theorem aMA {O:List (Nat×Option Ob)}{k:Nat}{v:Option Ob}(h:lo O k=v)(l:Nat):lo ((k,v)::O) l=lo O l:=by
 rw[aI]
 by_cases e:k=l
 · rw[aTK e,<- e,h]
 · rw[aTJ e]
theorem aHi {a b:Nat}(h:a≠b):Nat.beq a b=false:=by rw[lH,aVL];exact h
theorem aOh (R:List (List Rat)){d:Nat}(h:d<504):sR (rrO R) d=false:=by
 rw[rrO,sR,aF6 (fun _=>rfl) (by omega)]
 have e:=aHi (a:=d) (b:=777777777) (by omega)
 simp[aEw List.length 3 R 600 (d:=d) (.inl (by omega)),e]
theorem aOs {R:List (List Rat)}{k:Nat}{p:PV}(h:(jZ List.length 3 600 R)[k*1]?=some p):Nat.ble (k*1+1) (jZ List.length 3 600 R).length=true/\(jZ List.length 3 600 R).take (k*1)++[p]++(jZ List.length 3 600 R).drop (k*1+1)=jZ List.length 3 600 R:=by
 rw[Nat.mul_one]at h ⊢
 obtain⟨h1,h2⟩:=aUc.1 h
 refine⟨Nat.ble_eq▸h1,?_⟩
 rw[aT0,aUP,<- h2,<- aTQ h1,aUx]
theorem aQs {α:Type}{R:List α}{k:Nat}{x:α}(h:R[k]?=some x):R.set k x=R:=by
 obtain⟨h1,h2⟩:=aUc.1 h
 rw[<- h2,aWq]
section
attribute [local irreducible] CodeT Ent Meets MeetsX MeetsS Local qF Res1 RetIs RetX Sim OpT aFc NoLab wJ mC aCh Cut aBh aAH vA aHL XEnv XRet
def aPu (v:List Value):List PV:=[.sl (v.length / 3) (v.map PV.sc)]
theorem aKr (V:List (List Value)):V.map (fun v=>PV.sl (v.length / 3) (v.map PV.sc))=V.flatMap aPu:=by
 induction V with
 | nil=>rfl
 | cons v V ih=>rw[aTV,ih,aUk];rfl
def rwV (v:List Value):PV:=.rw 3 (v.length / 3) (v.map PV.sc)
theorem aIs:∀ v:List Value,jV (v.map PV.sc)=true
 | []=>rfl
 | x::v=>by simpa [jV]using aIs v
theorem aSV {V:List (List Value)}{k:Nat}(h:k<V.length):(V.take k).map rwV++[.rw 3 (V[k].length / 3) (V[k].map PV.sc)]=(V.take (k+1)).map rwV:=by
 rw[aWo,aTS h];simp only[Option.toList,aUF,aTV,aUH,rwV]
theorem aDZ (a0:List (List Rat))(a1:Int)(r:List (List Rat)×Bool)(H:lM a0 a1=some r):Meets Tryz.prog 94 [.sl a0.length (a0.flatMap (uB aF)),.sc (.int .i64 a1)] (.tup [.sl r.1.length (r.1.flatMap (uB aF)),.sc (.bool r.2)]) false:=by
 unfold lM at H
 obtain⟨b,hb,H1⟩:=aB H
 obtain⟨_,hck,H2⟩:=aB H1
 obtain⟨R,hR,H3⟩:=aB H2
 obtain⟨_,hlen,H4⟩:=aB H3
 clear H H1 H2 H3
 obtain⟨hb1,hb2,hb3,hb4⟩:=cH hck
 have hlen:=cH hlen
 cases H4
 subst hb1
 clear hck
 refine Meets.introW (N:=145) (rs:=#[.tmp 4,.tmp 5]) Tryz.func94 rfl rfl rfl rfl rfl ?_
 intro Γ cs hcs hio hle hi0 hold
 match cs,hcs with
 | [c0,c1],_ =>
 have h0:=hold 0 _ c0 rfl rfl
 obtain⟨V,hV1,hV2,hV3⟩:=OldF.rowsZ (sz:=3) (fun _=>rfl) (by decide) (fun _=>rfl) h0
 apply g1
 refine q2 ?_
 apply n1
 refine uA ?_
 refine aPU ?_
 refine aHn ?_
 apply n2
 refine q2 ?_
 refine bR ?_ (av (av .nil)) (aBs _ hb)
 refine aMS ?_
 refine q3 ?_
 refine aIv ?_
 refine aJr ?_
 apply dx
 refine CodeT.cond rfl (fun h=>absurd (aUi h) hb2) (fun _=>?_)
 apply aXr
 apply x3
 refine aWR (E':=⟨[(0,⟨.was c0 (.sl V.length (V.flatMap aPu)),false⟩),(6,vI a0.length)],[]⟩) ?_ ?_
 · refine aXc (Ent.sleep (k:=0) (c:=c0) rfl) ?_
   rw[aKr]at hV3
   refine aXc (Ent.wake (k:=0) rfl hV3) ?_
   exact esL []
 clear hb hold h0
 rw[aKr]at hV3
 have hV4:V.length<=1000:=by omega
 apply g1
 refine fE ?_
 refine aHn ?_
 apply dx
 apply sq
 apply g1
 refine uA ?_
 refine aPU ?_
 refine uA ?_
 apply dx
 apply aXo
 refine CodeT.loop (fun n E=>∃ k:Nat,n=V.length-k/\k<=V.length/\E=⟨[(6,vI a0.length),(7,vR 504 1 k),(27,⟨.sl V.length (V.flatMap aPu),false⟩),(28,vI V.length),(29,vI k)],[(504,vO ((V.take k).map rwV) true false)]⟩) V.length ⟨[(6,vI a0.length),(7,vR 504 1 0),(27,⟨.sl V.length (V.flatMap aPu),false⟩),(28,vI V.length),(29,vI (0:Nat))],[(504,vO [] true false)]⟩ ?_ ⟨0,rfl,aUB _,rfl⟩ ?_
 · exact esL [(504,26)]
 · rintro m E ⟨k,rfl,hk,rfl⟩
   apply sq
   apply rg
   refine aIv ?_
   refine dr ?_
   apply x3
   apply sq
   refine CodeT.cond rfl (fun h=>?_) (fun h=>?_)
   · apply aXr
     apply x3
     have hk2:k<V.length:=by have:=aUi h;omega
     have hid:idx V (k:Int)=some V[k]:=by unfold idx;rw[aTK (by omega),aUf];exact aTS hk2
     have hvl:V[k].length=V[k].length / 3*3/\V[k].length / 3<=1000000:=by
      have hk3:k<a0.length:=by omega
      have:=(hV2 k V[k] a0[k] (aTS hk2) (aTS hk3)).length
      rw[aU (sz:=3) (fun _=>rfl)]at this
      have:=hb4 a0[k] (aT2 hk3)
      omega
     apply sq
     apply aXo
     apply g1
     refine aPV ?_ hid
     refine aRJ ?_
     refine aHn ?_
     apply dx
     apply rg
     refine uA ?_
     refine fE ?_
     refine uA ?_
     apply aWO;(apply aXp 36;apply aBy true;rfl;rfl;rfl;rfl;(simp only[aTZ];exact hvl.1);omega;omega;(exact⟨io1 hio _,io1 hio _⟩);(intro _;exact aIs _);(exact⟨aTO _,aUg _⟩);rfl;rfl;rfl;(exact io1 hio _);rfl);rfl;rfl
     apply aWO;(apply aP9;rfl;rfl;rfl;rfl;rfl;rfl;rfl;rfl);rfl;rfl
     have hle3:(List.take k V).length=k:=by rw[aUo];omega
     apply aWO;(apply aQa;rfl;rfl;rfl;(rw[aTZ,hle3,Nat.mul_one]);rfl;omega;omega;(exact⟨io1 hio _,io1 hio _⟩);(exact⟨aSV hk2,rfl⟩);rfl);rfl;rfl
     refine aHn ?_
     refine dr ?_
     apply x5
     apply x3
     apply rg
     refine nR ?_ (hr:=w64 (n:=(k:Int)+1) (by omega))
     refine uA ?_
     refine dr ?_
     refine x14 (V.length-(k+1)) ⟨[(6,vI a0.length),(7,vR 504 1 (k+1)),(27,⟨.sl V.length (V.flatMap aPu),false⟩),(28,vI V.length),(29,vI (k+1:Nat))],[(504,vO ((V.take (k+1)).map rwV) true false)]⟩ (by omega) ?_ ⟨k+1,rfl,hk2,rfl⟩
     exact esL [(504,38)]
   · apply CodeT.exit
     apply x2
     apply x9
     apply x6 rfl
     apply x3
     have hk3:k=V.length:=by have:=aVR h;omega
     subst hk3
     rw[aUY]
     refine aWR (E':=⟨[(6,vI a0.length),(7,vR 504 1 a0.length)],rrO a0⟩) ?_ ?_
     · rw[<- hV1]
       refine aXc (E2:=⟨[(6,vI V.length),(7,vR 504 1 V.length)],[(504,some ⟨V.map rwV,true,false⟩)]⟩) ?_ ?_
       · exact esL []
       refine aXc (Ent.unpackZ (T:=504) (b:=600) (s:=3) (n:=fun v=>v.length / 3) (V:=V) (by omega) (fun l h1 h2=>?_) (fun k=>?_) (fun l _ h2=>io1 hio l ((aW _ _).2 (by omega))) hle (by omega)) ?_
       · have e1:Nat.beq l 777777777=false:=by rw[lH,aVL];omega
         have e2:Nat.beq 504 l=false:=by rw[lH,aVL];omega
         have e3:Nat.beq l 504=false:=by rw[lH,aVL];omega
         simp[aCR,aAp,aBt,PV.labs,vD,e1,e2,e3]
         try omega
       · show zS (bif Nat.beq 6 k then _ else bif Nat.beq 7 k then _ else _)=true
         cases Nat.beq 6 k <;> cases Nat.beq 7 k <;> rfl
       refine aXc (Ent.wakeZ (T:=504) (enc:=fun r=>r.flatMap aF) (R:=a0) (by omega) hV1 hV2) ?_
       have e4:jZ (fun v:List Value=>v.length / 3) 3 600 V=jZ List.length 3 600 a0:=aMf hV1 (fun i v r h1 h2=>by
        have:=(hV2 i v r h1 h2).length
        rw[aU (sz:=3) (fun _=>rfl)]at this;omega)
       rw[e4]
       exact Ent.same fun _=>rfl
     clear hV3 hV4 hk h hV1 hV2 hcs
     apply sq
     apply g1
     refine aHn ?_
     apply dx
     apply aXo
     refine aXk (fun s:Int×List (List Rat)=>⟨b6 a0.length s.1 [],rrO s.2⟩) (fun x e E=>XEnv Γ (.exit 2) ⟨[(6,vI a0.length),(7,vR 504 1 a0.length)],rrO x⟩ e E) hR ?_ ?_ ?_
     · exact es
     · rintro⟨k,T⟩ o hst
       unfold aK7 at hst
       simp only at hst
       apply sq
       apply sq
       apply rg
       refine q2 ?_
       refine aIv ?_
       refine dr ?_
       apply x3
       refine CodeT.cond rfl (fun h=>?_) (fun h=>?_)
       · rw[aTK (aUi h)]at hst
         apply aXr
         apply x3
         have hk0:k<(a0.length:Int):=aUi h
         clear h
         obtain⟨row,hrow,H1⟩:=aB hst
         obtain⟨x,hx,H2⟩:=aB H1
         obtain⟨g,hg,H3⟩:=aB H2
         obtain⟨_,hg0,H4⟩:=aB H3
         obtain⟨row',hJ,H5⟩:=aB H4
         obtain⟨_,hrl,H6⟩:=aB H5
         obtain⟨b,hgr,H7⟩:=aB H6
         obtain⟨_,hb1,H8⟩:=aB H7
         obtain⟨R',hI,H9⟩:=aB H8
         clear H1 H2 H3 H4 H5 H6 H7 H8 hst
         have hg0:=cH hg0
         have hrl:=cH hrl
         have hb1:=cH hb1
         subst hb1
         cases H9
         obtain⟨hk1,hk2,hk3⟩:=aD8 hrow
         obtain⟨q,rfl⟩:∃ q:Nat,k=(q:Int):=⟨k.toNat,by omega⟩
         rw[aUf]at hk2 hk3
         have hq:q<a0.length:=by omega
         have hT:=aDG hk2
         have hO:=aDF hk2
         apply sq
         apply aXo
         apply g1
         refine q2 ?_
         apply dx
         apply sq
         apply aXo
         refine CodeT.loop (fun _ E=>E=⟨b6 a0.length q [(11,vI (q:Int))],rrO T⟩) 0 _ ?_ rfl ?_
         · exact es
         rintro _ E rfl
         apply sq
         apply sq
         apply rg
         refine q2 ?_
         refine aKL (aP5 rfl rfl rfl) rfl (fun _=>?_) (fun h=>absurd hk0 h)
         refine q3 ?_
         refine ik hq ?_
         refine sE ?_ (hc:=hT)
         refine uA ?_
         refine dI ?_ hx (ho:=hO)
         refine rN ?_ (ho:=hO) (hc:=by exact oB hx (fun _=>rfl))
         refine bR ?_ (av .nil) (aBW _ hg)
         refine aKL (aMW rfl rfl rfl) rfl (fun h=>absurd h hg0) (fun _=>?_)
         refine aJq ?_
         refine dr ?_
         apply x3
         refine cf ?_
         apply CodeT.exit
         apply x2
         apply x9
         apply x6 rfl
         apply x3
         refine aWR (E':=⟨b6 a0.length q [(11,vI (q:Int))],rrO T⟩) (es) ?_
         apply sq
         apply g1
         refine q2 ?_
         refine aKL (aMW rfl rfl rfl) rfl (fun h=>absurd h (by omega)) (fun _=>?_)
         apply dx
         refine cf ?_
         apply aXr
         apply x3
         obtain⟨hp1,hp2⟩:=aOs hT
         have hs:(loq (rrO T) (600+q)).isSome=true:=by rw[hO];rfl
         have hs2:∀ v,(loq ((504,v)::rrO T) (600+q)).isSome=true:=fun v=>by rw[bV,aI,aTJ (by omega),<- bV];exact hs
         apply g1
         iterate 6 (refine uA ?_)
         refine ik hq ?_
         refine sE ?_ (hc:=hT)
         refine q2 ?_
         refine ik hq ?_
         refine sE ?_ (hc:=hT)
         refine ik hq ?_
         refine bF ?_ (hst:=by exact hs) (hk:=by exact hp1) (hc:=by exact hp2)
         refine ik hq ?_
         refine bF ?_ (hst:=by exact hs2 _) (hk:=by exact hp1) (hc:=by exact hp2)
         refine Run.done ⟨fun _=>⟨aCe (by rfl),by rfl⟩,?_⟩
         apply x3
         have hT0:lo (rrO T) 504=some ⟨jZ List.length 3 600 T,true,true⟩:=by rw[<- bV];exact aSZ T
         refine aWR (E':=⟨b6 a0.length q [],rrO T⟩) (es (fun l=>(Eq.trans (aMA (O:=(504,some ⟨jZ List.length 3 600 T,true,true⟩)::rrO T) (k:=504) (v:=some ⟨jZ List.length 3 600 T,true,true⟩) rfl l) (aMA hT0 l)).symm)) ?_
         have e12:Nat.beq (600+q) 12=false:=aHi (by omega)
         have n1:aAF (aF x)=[]:=rfl
         have n2:Nat.beq 12 777777777=false:=aHi (by omega)
         have n4:Nat.beq 504 12=false:=aHi (by omega)
         have n3:vD ([]:List Nat) 12=false:=rfl
         have s12:=aOh T (d:=12) (by omega)
         apply g1
         refine q2 ?_
         refine ik hq ?_
         refine sE ?_ (hc:=hT)
         refine uA ?_
         refine dI ?_ hx (ho:=hO)
         refine rN ?_ (ho:=hO) (hc:=by exact oB hx (fun _=>rfl))
         refine aG false ?_ (hno:=by simp[mW,tO,aCR,aAp,aBt,PV.labs,vD,zS,strip,e12,s12,n1,n2,n3,n4])
         refine bF (cells':=aF x) ?_
         refine dx ?_
         have hset:=aQs hk2
         refine aWR (E':=⟨b6 a0.length q [(12,vP 12 0)],rrP x T⟩) (es (fun l=>by
          show lo (rrP x T) l=lo ((12,some ⟨aF x,false,false⟩)::(12,_)::rrO T) l
          rw[rrP,aI,aI,aI];split <;> rfl)) ?_
         apply sq
         apply g1
         refine q2 ?_
         refine ik hq ?_
         refine sE ?_ (hc:=hT)
         refine kE ?_ (ho:=aMa hk2)
         refine uA ?_
         apply dx
         apply aXo
         refine aXk (fun s:Int×List Rat=>⟨b6 a0.length q [(12,vP 12 0),(90,vI row.length),(91,vI s.1)],rrP x (T.set q s.2)⟩) (fun y e E=>XEnv Γ (.exit 6) ⟨b6 a0.length q [],rrO (T.set q y)⟩ e E) hJ ?_ ?_ ?_
         · refine es (fun l=>?_)
           simp only[hset]
           rfl
         · rintro⟨j,Rw⟩ o hst
           unfold aOg at hst
           simp only at hst
           have hw:(T.set q Rw)[q]?=some Rw:=aVB hk3
           have hwT:=aDG hw
           have hwO:=aMa (x:=x) hw
           apply sq
           apply rg
           refine aIv ?_
           refine dr ?_
           apply x3
           apply sq
           refine CodeT.cond rfl (fun h=>?_) (fun h=>?_)
           · rw[aTK (aUi h)]at hst
             obtain⟨y,hy,H1⟩:=aB hst
             obtain⟨qv,hqv,H2⟩:=aB H1
             obtain⟨r,hr,H3⟩:=aB H2
             cases H3
             have hl:=gW hr
             apply aXr
             apply x3
             apply sq
             apply aXo
             apply g1
             refine q2 ?_
             apply dx
             apply rg
             refine q2 ?_
             refine ik hq ?_
             refine sE ?_ (hc:=hwT)
             refine q3 ?_
             refine ik hq ?_
             refine sE ?_ (hc:=hwT)
             refine uA ?_
             refine dI ?_ hy (ho:=hwO)
             refine rN ?_ (ho:=hwO) (hc:=by exact oB hy (fun _=>rfl))
             refine rN ?_
             refine bR ?_ (av (av .nil)) (pQ _ hqv)
             refine dI ?_ hy (ho:=hwO)
             apply aWO;(apply aXz (aEv (sz:=3) (encw:=aH) (enc:=aF) hr hy (fun _=>rfl) (aP _));apply aMU;rfl;exact hwO;rfl;rfl;rfl;rfl;(intro h;cases h);(exact rB 3 3 hy);rfl);rfl;rfl
             refine Run.done ⟨fun _=>⟨aCe (by rfl),by rfl⟩,?_⟩
             apply x5
             apply x3
             apply rg
             refine nR ?_
             refine uA ?_
             refine dr ?_
             apply Ev.y1
             refine es (fun l=>?_)
             show lo (rrP x (T.set q r)) l=lo ((600+q,some ⟨r.flatMap aF,false,false⟩)::rrP x (T.set q Rw)) l
             rw[<- aQu hw hl.symm,List.set_set]
           · rw[aTJ (aVR h)]at hst
             cases hst
             apply CodeT.exit
             apply x2
             apply Ev.y3
             refine XEnv.mk ?_
             refine aXc (E2:=⟨b6 a0.length q [],rrP x (T.set q Rw)⟩) (es) (Ent.sub aQt)
         · rintro e E' he
           obtain⟨rfl,he2⟩:=he.out
           clear he
           apply x6 rfl
           apply x3
           refine aWR he2 ?_
           have hw:(T.set q row')[q]?=some row':=aVB hk3
           have hwT:=aDG hw
           have hwO:=aDF hw
           apply sq
           apply g1
           refine q2 ?_
           refine ik hq ?_
           refine sE ?_ (hc:=hwT)
           refine bR ?_ (ar .nil (ho:=hwO)) (qV _ hgr)
           refine aMS ?_
           apply dx
           refine cf ?_
           apply aXr
           apply x3
           have hsi:nS T (q:Int) row'=T.set q row':=by unfold nS;rw[aUf]
           rw[hsi]at hI
           apply g1
           refine uA ?_
           refine kE ?_
           refine uA ?_
           apply dx
           apply aXo
           refine aXk (fun s:Int×List (List Rat)=>⟨b6 a0.length q [(117,vI a0.length),(118,vI s.1)],rrO s.2⟩) (fun y e E=>XEnv Γ (.exit 8) ⟨b6 a0.length q [],rrO y⟩ e E) hI ?_ ?_ ?_
           · exact es
           · rintro⟨i,W⟩ o hst
             unfold aM5 at hst
             simp only at hst
             apply sq
             apply rg
             refine aIv ?_
             refine dr ?_
             apply x3
             apply sq
             refine CodeT.cond rfl (fun h=>?_) (fun h=>?_)
             · have hin:i<(a0.length:Int):=aUi h
               rw[aTK hin]at hst
               apply aXr
               apply x3
               apply sq
               apply aXo
               apply g1
               refine q2 ?_
               apply dx
               apply g1
               refine q2 ?_
               refine aKL (aP3 rfl rfl rfl) rfl (fun hne=>?_) (fun hne=>?_)
               · rw[aTK hne]at hst
                 obtain⟨ri,hri,H1⟩:=aB hst
                 obtain⟨rk,hrk,H2⟩:=aB H1
                 obtain⟨f,hf,H3⟩:=aB H2
                 obtain⟨r,hr,H4⟩:=aB H3
                 obtain⟨_,hr1,H5⟩:=aB H4
                 cases H5
                 have hr1:=cH hr1
                 obtain⟨i1,i2,i3⟩:=aD8 hri
                 obtain⟨_,k2,k3⟩:=aD8 hrk
                 obtain⟨p,rfl⟩:∃ p:Nat,i=(p:Int):=⟨i.toNat,by omega⟩
                 rw[aUf]at i2 i3 k2 k3
                 have hp:p<a0.length:=by omega
                 have hpq:p≠q:=fun e=>hne (by rw[e])
                 have iT:=aDG i2
                 have kT:=aDG k2
                 have iO:=aDF i2
                 have kO:=aDF k2
                 obtain⟨l1,l2⟩:=aB1 _ _ _ _ hr
                 obtain⟨rb,ra,rc⟩:=r
                 simp only at hr1 l1 l2 ⊢
                 subst hr1
                 have hinj:aB5 [(100000,600+p),(100001,600+q)] [100000,100001]=true:=by
                  have e1:Nat.beq (600+q) (600+p)=false:=aHi (by omega)
                  simp[aB5,rn,vD,e1,lH]
                 refine q3 ?_
                 refine ik hp ?_
                 refine sE ?_ (hc:=iT)
                 refine q2 ?_
                 refine ik hq ?_
                 refine sE ?_ (hc:=kT)
                 refine q2 ?_
                 refine ik hp ?_
                 refine sE ?_ (hc:=iT)
                 refine uA ?_
                 refine dI ?_ hf (ho:=iO)
                 refine rN ?_ (ho:=iO) (hc:=by exact oB hf (fun _=>rfl))
                 apply aWO;(apply aRg [(100000,600+p),(100001,600+q)] (aWU (.io rfl) (aWU (.io rfl) (aWU (.val (.val rfl rfl) rfl) .nil))) (aDh _ hr) (ObsS.cons iO (ObsS.cons kO .nil)) hinj rfl rfl rfl);rfl;rfl
                 refine aMS ?_
                 refine aJq ?_
                 refine Run.done ⟨fun _=>⟨aCe (by rfl),by rfl⟩,?_⟩
                 apply x3
                 refine cf ?_
                 apply aXr
                 apply x5
                 apply x3
                 apply rg
                 refine nR ?_
                 refine uA ?_
                 refine dr ?_
                 apply Ev.y1
                 refine es (fun l=>?_)
                 have hs1:nS (nS W (p:Int) ra) (q:Int) rc=(W.set q rc).set p ra:=by
                  unfold nS;rw[aUf,aUf,List.set_comm _ _ hpq]
                 have hg:(W.set q rc)[p]?=some ri:=by rw[aWx (fun e=>hpq e.symm)];exact i2
                 show lo (rrO (nS (nS W (p:Int) ra) (q:Int) rc)) l=lo ((600+p,some ⟨ra.flatMap aF,false,false⟩)::(600+q,some ⟨rc.flatMap aF,false,false⟩)::rrO W) l
                 rw[hs1,aIT hg l1.symm,aI,aI,aIT k2 l2.symm]
               · rw[aTJ hne]at hst
                 cases hst
                 refine uA ?_
                 iterate 17 (refine Run.skip rfl ?_)
                 refine aJr ?_
                 refine Run.done ⟨fun _=>⟨aCe (by rfl),by rfl⟩,?_⟩
                 apply x3
                 refine cf ?_
                 apply aXr
                 apply x5
                 apply x3
                 apply rg
                 refine nR ?_
                 refine uA ?_
                 refine dr ?_
                 apply Ev.y1
                 exact es
             · rw[aTJ (aVR h)]at hst
               cases hst
               apply CodeT.exit
               apply x2
               apply Ev.y3
               refine XEnv.mk ?_
               exact es
           · rintro e E' he
             obtain⟨rfl,he2⟩:=he.out
             clear he
             apply x6 rfl
             apply x5
             apply x3
             refine aWR he2 ?_
             apply rg
             refine uA ?_
             refine nR ?_
             refine aHn ?_
             refine dr ?_
             apply Ev.y1
             exact es
       · rw[aTJ (aVR h)]at hst
         cases hst
         apply CodeT.exit
         apply x2
         apply y3
         refine XEnv.mk ?_
         exact es
     · rintro e E' he
       obtain⟨rfl,he2⟩:=he.out
       clear he
       apply x6 rfl
       apply x3
       refine aWR he2 ?_
       refine aWR (Ent.absorbZ (T:=504) (b:=600) (by omega) (fun l _ h2=>io1 hio l ((aW _ _).2 (by omega)))) ?_
       rw[<- hlen,aM6]
       apply g1
       refine q3 ?_
       apply dx
       apply CodeT.ret
       apply x12
       refine aWQ (aXb (k:=4) rfl rfl (io1 hio _) rfl) ?_
       exact aWW (.inl rfl) (aWL (Res1.val rfl rfl) (aWL (aW7 rfl) aW3)) (fun h=>by first | rfl | cases h)
end
end Go.Ev
