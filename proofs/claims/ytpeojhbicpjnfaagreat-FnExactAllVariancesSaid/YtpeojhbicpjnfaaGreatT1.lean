/- Parts Td, T1, T2, T3, T4. -/
import Derived.Test.YtpeojhbicpjnfaaGreatLd
import Derived.Test.YtpeojhbicpjnfaaGreatL1
set_option linter.all false
/- The table's pieces, lifted. -/
namespace Go.Ev
open Go.Proofs
set_option linter.all false
def s1:Code→Code
  | .seq x _=>x
  | _=>.skip
def s2:Code→Code
  | .seq _ y=>y
  | _=>.skip
def blk:Code→Code
  | .block _ c=>c
  | _=>.skip
def lpb:Code→Code
  | .loop c=>c
  | _=>.skip
noncomputable def c82:Code:=match Tryz.f82.body with
  | some c=>c
  | none=>.skip
noncomputable def k82:Code:=blk (s1 (s2 (lpb (blk (s2 (s1 (s2 (s2 (s2 c82))))))))) 
noncomputable def oG (a0:(List Conditional)) (y5:(List Int)) (v7:Int) (y6:(List (List Rat))):Option Conditional:=(idx a0 v7).bind fun y11=>some y11
noncomputable def oF (a0:(List Conditional)) (y5:(List Int)) (v7:Int) (d12:Conditional) (y6:(List (List Rat))):Option Unit:=some ()
noncomputable def kS (d12:Conditional) (y5:(List Int)) (y6:(List (List Rat))) (v33:Int):(Int × Rat)→Option ((Int × Rat) ⊕ Rat):=fun s=>match s with | (v42,v43)=>(if (v42 < (d12.fParents.length:Int)) then (idx d12.fParents v42).bind fun y44=>(iW y5 y44.fNode).bind fun r45=>(idx y6 r45).bind fun y46=>(idx y46 v33).bind fun y47=>(lN y44.fShare y47).bind fun r48=>(jO v43 r48).bind fun r49=>some (.inl (IntKind.i64.wrap (v42+1),r49)) else some (.inr v43))
noncomputable def fW (y5:(List Int)) (d12:Conditional) (y6:(List (List Rat))):(Int × (List Rat))→Option ((Int × (List Rat)) ⊕ (List Rat)):=fun s=>match s with | (v33,v34)=>(if (v33 < (y5.length:Int)) then (dU 0).bind fun r35=>(lp (kS d12 y5 y6 v33) (0,r35)).bind (fun d51=>(chk ((v34.length+1)*56≤140737488355328)).bind fun _u=>(bH (v34++([d51]))).bind fun v54=>some (.inl (IntKind.i64.wrap (v33+1),v54))) else some (.inr v34))
noncomputable def oE (a0:(List Conditional)) (y5:(List Int)) (v7:Int) (d12:Conditional) (y6:(List (List Rat))):Option (List Rat):=(lp (fW y5 d12 y6) (0,([]:List Rat))).bind (fun d56=>some d56)
noncomputable def oD (a0:(List Conditional)) (y5:(List Int)) (v7:Int) (d58:(List Rat)) (d12:Conditional) (y6:(List (List Rat))):Option Rat:=(dU 1).bind fun r59=>(nH r59 d12.fTotal).bind fun r60=>some r60
noncomputable def kR (d12:Conditional) (y5:(List Int)) (d58:(List Rat)):(Int × Rat)→Option ((Int × Rat) ⊕ Rat):=fun s=>match s with | (v67,v68)=>(if (v67 < (d12.fParents.length:Int)) then (idx d12.fParents v67).bind fun y69=>(iW y5 y69.fNode).bind fun r70=>(idx d58 r70).bind fun y71=>(lN y69.fShare y71).bind fun r72=>(jO v68 r72).bind fun r73=>some (.inl (IntKind.i64.wrap (v67+1),r73)) else some (.inr v68))
noncomputable def oB (a0:(List Conditional)) (y5:(List Int)) (v7:Int) (d58:(List Rat)) (d12:Conditional) (d61:Rat) (y6:(List (List Rat))):Option Rat:=(lp (kR d12 y5 d58) (0,d61)).bind (fun d75=>some d75)
end Go.Ev
/- The walks of the table's pieces. -/
namespace Go.Ev
open Go.Proofs
set_option linter.all false
set_option maxHeartbeats 4000000
attribute [local irreducible] CodeT Ent Meets MeetsX Local lY Res1 RetIs RetX Sim OpT aAW NoLab rU kQ yE wA vE qE aAm XEnv XRet XRetX XRetN MeetsN MeetsD MeetsF MeetsR MarkC RetN RetM aBq aBr
theorem zT {Γ:Ctx Tryz.prog 124} (hio:∀ l,Nat.blt l 100000=true→Γ.io l=none) (hi0:∀ l,Γ.io l=none) {c0 vt:Value} {V:List (List (List Value))} {Bs:List Nat} (hF:Foreign Γ 3 vt V Bs) (a0:(List Conditional)) (y5:(List Int)) (v7:Int) (y6:(List (List Rat))) (hVR:V.length=y6.length) (hVr:∀ (k:Nat) r row,V[k]?=some r→y6[k]?=some row→r.length=row.length) (hOld:∀ (k j:Nat) r row e y,V[k]?=some r→y6[k]?=some row→r[j]?=some e→row[j]?=some y→OldL Γ e (aP y)) (x:Conditional) (H:oG a0 y5 v7 y6=some x):CodeT Γ (s1 k82) ⟨[(0,⟨.was c0 (.sl a0.length (a0.flatMap aF)),false⟩),(4,⟨.ref 504 1 0 y5.length,false⟩),(5,⟨.sc vt,false⟩),(6,⟨.sc (.int .i64 v7),false⟩)],[(504,some ⟨y5.flatMap (aG .i64),true,false⟩)]⟩ (aAm (fun d e E=>XEnv Γ .normal ⟨[(0,⟨.was c0 (.sl a0.length (a0.flatMap aF)),false⟩),(4,⟨.ref 504 1 0 y5.length,false⟩),(5,⟨.sc vt,false⟩),(6,⟨.sc (.int .i64 v7),false⟩),(7,⟨.ptr 7 0,false⟩)],[(7,some ⟨(aF d),false,false⟩),(504,some ⟨y5.flatMap (aG .i64),true,false⟩)]⟩ e E) x):=by
  unfold oG at H;apply rg;refine aA ?_;refine aA ?_;obtain ⟨y11,hy11,H⟩:=aB H;refine aV ?_ (hy11);refine dH ?_;refine aR false ?_;refine dQ (cells':=(aF y11)) ?_;apply dn;obtain rfl:=Option.some.inj H;refine Ev.y4 ?_;refine XEnv.mk ?_;apply el [] (io0 hio _) <;> rfl
theorem zS {Γ:Ctx Tryz.prog 124} (hio:∀ l,Nat.blt l 100000=true→Γ.io l=none) (hi0:∀ l,Γ.io l=none) {c0 vt:Value} {V:List (List (List Value))} {Bs:List Nat} (hF:Foreign Γ 3 vt V Bs) (a0:(List Conditional)) (y5:(List Int)) (v7:Int) (d12:Conditional) (y6:(List (List Rat))) (hVR:V.length=y6.length) (hVr:∀ (k:Nat) r row,V[k]?=some r→y6[k]?=some row→r.length=row.length) (hOld:∀ (k j:Nat) r row e y,V[k]?=some r→y6[k]?=some row→r[j]?=some e→row[j]?=some y→OldL Γ e (aP y)) (x:Unit) (H:oF a0 y5 v7 d12 y6=some x):CodeT Γ (s1 (s2 k82)) ⟨[(0,⟨.was c0 (.sl a0.length (a0.flatMap aF)),false⟩),(4,⟨.ref 504 1 0 y5.length,false⟩),(5,⟨.sc vt,false⟩),(6,⟨.sc (.int .i64 v7),false⟩),(7,⟨.ptr 7 0,false⟩)],[(7,some ⟨(aF d12),false,false⟩),(504,some ⟨y5.flatMap (aG .i64),true,false⟩)]⟩ (aAm (fun d e E=>XEnv Γ .normal ⟨[(0,⟨.was c0 (.sl a0.length (a0.flatMap aF)),false⟩),(4,⟨.ref 504 1 0 y5.length,false⟩),(5,⟨.sc vt,false⟩),(6,⟨.sc (.int .i64 v7),false⟩),(7,⟨.ptr 7 0,false⟩),(8,⟨.ref 508 3 0 ([]:List Rat).length,false⟩)],[(7,some ⟨(aF d12),false,false⟩),(504,some ⟨y5.flatMap (aG .i64),true,false⟩),(508,some ⟨([]:List Rat).flatMap aJ,true,false⟩)]⟩ e E) x):=by
  unfold oF at H;apply rg;refine qT ?_;refine aC ?_;apply dn;obtain rfl:=Option.some.inj H;refine Ev.y4 ?_;refine XEnv.mk ?_;apply el [(508,32)] (io0 hio _) <;> rfl
theorem zR {Γ:Ctx Tryz.prog 124} (hio:∀ l,Nat.blt l 100000=true→Γ.io l=none) (hi0:∀ l,Γ.io l=none) {c0 vt:Value} {V:List (List (List Value))} {Bs:List Nat} (hF:Foreign Γ 3 vt V Bs) (a0:(List Conditional)) (y5:(List Int)) (v7:Int) (d12:Conditional) (y6:(List (List Rat))) (hVR:V.length=y6.length) (hVr:∀ (k:Nat) r row,V[k]?=some r→y6[k]?=some row→r.length=row.length) (hOld:∀ (k j:Nat) r row e y,V[k]?=some r→y6[k]?=some row→r[j]?=some e→row[j]?=some y→OldL Γ e (aP y)) (x:(List Rat)) (H:oE a0 y5 v7 d12 y6=some x):CodeT Γ (s1 (s2 (s2 k82))) ⟨[(0,⟨.was c0 (.sl a0.length (a0.flatMap aF)),false⟩),(4,⟨.ref 504 1 0 y5.length,false⟩),(5,⟨.sc vt,false⟩),(6,⟨.sc (.int .i64 v7),false⟩),(7,⟨.ptr 7 0,false⟩),(8,⟨.ref 508 3 0 ([]:List Rat).length,false⟩)],[(7,some ⟨(aF d12),false,false⟩),(504,some ⟨y5.flatMap (aG .i64),true,false⟩),(508,some ⟨([]:List Rat).flatMap aJ,true,false⟩)]⟩ (aAm (fun d e E=>XEnv Γ .normal ⟨[(0,⟨.was c0 (.sl a0.length (a0.flatMap aF)),false⟩),(4,⟨.ref 504 1 0 y5.length,false⟩),(5,⟨.sc vt,false⟩),(6,⟨.sc (.int .i64 v7),false⟩),(7,⟨.ptr 7 0,false⟩),(8,⟨.ref 508 3 0 d.length,false⟩)],[(7,some ⟨(aF d12),false,false⟩),(504,some ⟨y5.flatMap (aG .i64),true,false⟩),(508,some ⟨d.flatMap aJ,true,false⟩)]⟩ e E) x):=by
  unfold oE at H;apply g1;refine aA ?_;refine uW ?_;refine aA ?_;apply dx;apply CodeT.block;obtain ⟨d56,hd56,H⟩:=aB H;refine CodeT.lloop (fun s=>⟨[(0,⟨.was c0 (.sl a0.length (a0.flatMap aF)),false⟩),(4,⟨.ref 504 1 0 y5.length,false⟩),(5,⟨.sc vt,false⟩),(6,⟨.sc (.int .i64 v7),false⟩),(7,⟨.ptr 7 0,false⟩),(8,⟨.ref 508 3 0 s.2.length,false⟩),(34,⟨.sc (.int .i64 (y5.length:Int)),false⟩),(35,⟨.sc (.int .i64 s.1),false⟩)],[(7,some ⟨(aF d12),false,false⟩),(504,some ⟨y5.flatMap (aG .i64),true,false⟩),(508,some ⟨s.2.flatMap aJ,true,false⟩)]⟩) (fun d e E=>XEnv Γ (.exit 2) ⟨[(0,⟨.was c0 (.sl a0.length (a0.flatMap aF)),false⟩),(4,⟨.ref 504 1 0 y5.length,false⟩),(5,⟨.sc vt,false⟩),(6,⟨.sc (.int .i64 v7),false⟩),(7,⟨.ptr 7 0,false⟩),(8,⟨.ref 508 3 0 d.length,false⟩)],[(7,some ⟨(aF d12),false,false⟩),(504,some ⟨y5.flatMap (aG .i64),true,false⟩),(508,some ⟨d.flatMap aJ,true,false⟩)]⟩ e E) hd56 ?_ ?_ ?_;apply el [] (io0 hio _) <;> rfl;clear H hd56;rintro ⟨v33,v34⟩ o H;unfold fW at H;apply g1;refine bF ?_;apply dx;apply sq;refine CodeT.cond rfl (fun h=>?_) (fun h=>?_);replace H:=ifT (of_decide_eq_true h) H;apply CodeT.skip;apply x3;apply sq;apply CodeT.block;apply g1;refine aA ?_;refine aC ?_;apply n1;obtain ⟨r35,hr35,H⟩:=aB H;refine aH ?_ (av .nil) (jT 0 _ hr35);refine aR false ?_;refine bP (cells':=(aJ r35)) ?_;apply n2;refine aD ?_;refine aI ?_;refine aQ ?_;refine aA ?_;apply dx;apply CodeT.block;obtain ⟨d51,hd51,H⟩:=aB H;refine CodeT.lloop (fun s=>⟨[(0,⟨.was c0 (.sl a0.length (a0.flatMap aF)),false⟩),(4,⟨.ref 504 1 0 y5.length,false⟩),(5,⟨.sc vt,false⟩),(6,⟨.sc (.int .i64 v7),false⟩),(7,⟨.ptr 7 0,false⟩),(8,⟨.ref 508 3 0 v34.length,false⟩),(9,⟨.sc (.int .i64 v33),false⟩),(10,⟨.ptr 10 0,false⟩),(34,⟨.sc (.int .i64 (y5.length:Int)),false⟩),(35,⟨.sc (.int .i64 v33),false⟩),(40,⟨.sl d12.fParents.length (d12.fParents.flatMap bA),false⟩),(41,⟨.sc (.int .i64 (d12.fParents.length:Int)),false⟩),(42,⟨.sc (.int .i64 s.1),false⟩)],[(7,some ⟨(aF d12),false,false⟩),(10,some ⟨(aJ s.2),true,false⟩),(504,some ⟨y5.flatMap (aG .i64),true,false⟩),(508,some ⟨v34.flatMap aJ,true,false⟩)]⟩) (fun d e E=>XEnv Γ (.exit 4) ⟨[(0,⟨.was c0 (.sl a0.length (a0.flatMap aF)),false⟩),(4,⟨.ref 504 1 0 y5.length,false⟩),(5,⟨.sc vt,false⟩),(6,⟨.sc (.int .i64 v7),false⟩),(7,⟨.ptr 7 0,false⟩),(8,⟨.ref 508 3 0 v34.length,false⟩),(10,⟨.ptr 10 0,false⟩),(34,⟨.sc (.int .i64 (y5.length:Int)),false⟩),(35,⟨.sc (.int .i64 v33),false⟩)],[(7,some ⟨(aF d12),false,false⟩),(10,some ⟨(aJ d),true,false⟩),(504,some ⟨y5.flatMap (aG .i64),true,false⟩),(508,some ⟨v34.flatMap aJ,true,false⟩)]⟩ e E) hd51 ?_ ?_ ?_;apply el [] (io0 hio _) <;> rfl;clear H hd51;rintro ⟨v42,v43⟩ o H;unfold kS at H;apply g1;refine bF ?_;apply dx;apply sq;refine CodeT.cond rfl (fun h=>?_) (fun h=>?_);replace H:=ifT (of_decide_eq_true h) H;apply CodeT.skip;apply x3;apply sq;apply CodeT.block;apply g1;obtain ⟨y44,hy44,H⟩:=aB H;refine aV ?_ (hy44);refine dH ?_;refine aR false ?_;refine dQ (cells':=(bA y44)) ?_;apply n0;apply Run.op;(apply Local.soft (Soft.agg (cM _));apply hY;rfl;rfl;(first | exact iT rfl | rfl);rfl;(intro h;cases h);(first | exact .inl rfl | exact .inr rfl);rfl);rfl;rfl;refine aD ?_;refine aM ?_;refine aA ?_;refine aA ?_;refine aD ?_;refine aI ?_;obtain ⟨r45,hr45,H⟩:=aB H;refine aH ?_ (ar (av .nil)) (tE y5 y44.fNode _ hr45);obtain ⟨y46,hy46,H⟩:=aB H;apply Run.op;(apply aJU hF hVR;rfl;rfl;(exact hy46);rfl);rfl;rfl;apply Run.op;(apply aJR hF hi0 hVR;rfl;(exact hy46);rfl);rfl;rfl;refine aA ?_;obtain ⟨y47,hy47,H⟩:=aB H;apply Run.op;(apply aJT hF hVR hVr;rfl;rfl;(exact hy46);(exact hy47);rfl);rfl;rfl;apply Run.op;(apply aJQ hF hi0 hVR hVr hOld (fun _=>rfl) (by decide) (fun _=>rfl);rfl;(exact hy46);(exact hy47);rfl);rfl;rfl;obtain ⟨r48,hr48,H⟩:=aB H;refine aH ?_ (av (av .nil)) (zF y44.fShare y47 _ hr48);obtain ⟨r49,hr49,H⟩:=aB H;refine aH ?_ (av (avS .nil (Soft.agg (cM _)))) (uO v43 r48 _ hr49);refine bP (cells':=(aJ r49)) ?_;apply Run.done;refine ⟨fun _=>⟨rfl,rfl⟩,?_⟩;apply x5;apply x3;apply rg;refine bC ?_;refine aA ?_;apply dn;obtain rfl:=Option.some.inj H;refine Ev.y1 ?_;apply el [] (io0 hio _) <;> rfl;replace H:=ifF (of_decide_eq_false h) H;apply CodeT.exit;apply x2;obtain rfl:=Option.some.inj H;refine Ev.y3 ?_;refine XEnv.mk ?_;apply el [] (io0 hio _) <;> rfl;skip;intro e E' hX;obtain ⟨rfl,g52⟩:=XEnv.out hX;refine x6 rfl ?_;apply x3;refine CodeT.weak g52 ?_;apply rg;refine aA ?_;refine gX ?_;refine aAk ?_;obtain ⟨_u,ha53,H⟩:=aB H;obtain ⟨v54,hv54,H⟩:=aB H;refine aAl ?_ (cQ ha53) (fI (l:=v34) (y:=d51) (enc:=aJ) hv54);refine aC ?_;apply dn;apply x5;apply x3;apply rg;refine bC ?_;refine aA ?_;apply dn;obtain rfl:=Option.some.inj H;refine Ev.y1 ?_;apply el [(508,65)] (io0 hio _) <;> rfl;replace H:=ifF (of_decide_eq_false h) H;apply CodeT.exit;apply x2;obtain rfl:=Option.some.inj H;refine Ev.y3 ?_;refine XEnv.mk ?_;apply el [] (io0 hio _) <;> rfl;skip;intro e E' hX;obtain ⟨rfl,g57⟩:=XEnv.out hX;refine x6 rfl ?_;obtain rfl:=Option.some.inj H;refine Ev.y4 ?_;refine XEnv.mk ?_;refine Ent.trans g57 ?_;apply el [] (io0 hio _) <;> rfl
theorem zQ {Γ:Ctx Tryz.prog 124} (hio:∀ l,Nat.blt l 100000=true→Γ.io l=none) (hi0:∀ l,Γ.io l=none) {c0 vt:Value} {V:List (List (List Value))} {Bs:List Nat} (hF:Foreign Γ 3 vt V Bs) (a0:(List Conditional)) (y5:(List Int)) (v7:Int) (d58:(List Rat)) (d12:Conditional) (y6:(List (List Rat))) (hVR:V.length=y6.length) (hVr:∀ (k:Nat) r row,V[k]?=some r→y6[k]?=some row→r.length=row.length) (hOld:∀ (k j:Nat) r row e y,V[k]?=some r→y6[k]?=some row→r[j]?=some e→row[j]?=some y→OldL Γ e (aP y)) (x:Rat) (H:oD a0 y5 v7 d58 d12 y6=some x):CodeT Γ (s1 (s2 (s2 (s2 k82)))) ⟨[(0,⟨.was c0 (.sl a0.length (a0.flatMap aF)),false⟩),(4,⟨.ref 504 1 0 y5.length,false⟩),(5,⟨.sc vt,false⟩),(6,⟨.sc (.int .i64 v7),false⟩),(7,⟨.ptr 7 0,false⟩),(8,⟨.ref 508 3 0 d58.length,false⟩)],[(7,some ⟨(aF d12),false,false⟩),(504,some ⟨y5.flatMap (aG .i64),true,false⟩),(508,some ⟨d58.flatMap aJ,true,false⟩)]⟩ (aAm (fun d e E=>XEnv Γ .normal ⟨[(0,⟨.was c0 (.sl a0.length (a0.flatMap aF)),false⟩),(4,⟨.ref 504 1 0 y5.length,false⟩),(5,⟨.sc vt,false⟩),(6,⟨.sc (.int .i64 v7),false⟩),(7,⟨.ptr 7 0,false⟩),(8,⟨.ref 508 3 0 d58.length,false⟩),(13,⟨.ptr 13 0,false⟩)],[(7,some ⟨(aF d12),false,false⟩),(13,some ⟨(aJ d),true,false⟩),(504,some ⟨y5.flatMap (aG .i64),true,false⟩),(508,some ⟨d58.flatMap aJ,true,false⟩)]⟩ e E) x):=by
  unfold oD at H;apply rg;obtain ⟨r59,hr59,H⟩:=aB H;refine aH ?_ (av .nil) (jT 1 _ hr59);refine aD ?_;refine aM ?_;obtain ⟨r60,hr60,H⟩:=aB H;refine aH ?_ (avS (av .nil) (Soft.agg (cM _))) (aDh r59 d12.fTotal _ hr60);refine aR false ?_;refine bP (cells':=(aJ r60)) ?_;apply Run.done;refine ⟨fun _=>⟨rfl,rfl⟩,?_⟩;obtain rfl:=Option.some.inj H;refine Ev.y4 ?_;refine XEnv.mk ?_;apply el [] (io0 hio _) <;> rfl
theorem zP {Γ:Ctx Tryz.prog 124} (hio:∀ l,Nat.blt l 100000=true→Γ.io l=none) (hi0:∀ l,Γ.io l=none) {c0 vt:Value} {V:List (List (List Value))} {Bs:List Nat} (hF:Foreign Γ 3 vt V Bs) (a0:(List Conditional)) (y5:(List Int)) (v7:Int) (d58:(List Rat)) (d12:Conditional) (d61:Rat) (y6:(List (List Rat))) (hVR:V.length=y6.length) (hVr:∀ (k:Nat) r row,V[k]?=some r→y6[k]?=some row→r.length=row.length) (hOld:∀ (k j:Nat) r row e y,V[k]?=some r→y6[k]?=some row→r[j]?=some e→row[j]?=some y→OldL Γ e (aP y)) (x:Rat) (H:oB a0 y5 v7 d58 d12 d61 y6=some x):CodeT Γ (s1 (s2 (s2 (s2 (s2 k82))))) ⟨[(0,⟨.was c0 (.sl a0.length (a0.flatMap aF)),false⟩),(4,⟨.ref 504 1 0 y5.length,false⟩),(5,⟨.sc vt,false⟩),(6,⟨.sc (.int .i64 v7),false⟩),(7,⟨.ptr 7 0,false⟩),(8,⟨.ref 508 3 0 d58.length,false⟩),(13,⟨.ptr 13 0,false⟩)],[(7,some ⟨(aF d12),false,false⟩),(13,some ⟨(aJ d61),true,false⟩),(504,some ⟨y5.flatMap (aG .i64),true,false⟩),(508,some ⟨d58.flatMap aJ,true,false⟩)]⟩ (aAm (fun d e E=>XEnv Γ .normal ⟨[(0,⟨.was c0 (.sl a0.length (a0.flatMap aF)),false⟩),(4,⟨.ref 504 1 0 y5.length,false⟩),(5,⟨.sc vt,false⟩),(6,⟨.sc (.int .i64 v7),false⟩),(7,⟨.ptr 7 0,false⟩),(8,⟨.ref 508 3 0 d58.length,false⟩),(13,⟨.ptr 13 0,false⟩)],[(7,some ⟨(aF d12),false,false⟩),(13,some ⟨(aJ d),true,false⟩),(504,some ⟨y5.flatMap (aG .i64),true,false⟩),(508,some ⟨d58.flatMap aJ,true,false⟩)]⟩ e E) x):=by
  unfold oB at H;apply g1;refine aD ?_;refine aI ?_;refine aQ ?_;refine aA ?_;apply dx;apply CodeT.block;obtain ⟨d75,hd75,H⟩:=aB H;refine CodeT.lloop (fun s=>⟨[(0,⟨.was c0 (.sl a0.length (a0.flatMap aF)),false⟩),(4,⟨.ref 504 1 0 y5.length,false⟩),(5,⟨.sc vt,false⟩),(6,⟨.sc (.int .i64 v7),false⟩),(7,⟨.ptr 7 0,false⟩),(8,⟨.ref 508 3 0 d58.length,false⟩),(13,⟨.ptr 13 0,false⟩),(72,⟨.sl d12.fParents.length (d12.fParents.flatMap bA),false⟩),(73,⟨.sc (.int .i64 (d12.fParents.length:Int)),false⟩),(74,⟨.sc (.int .i64 s.1),false⟩)],[(7,some ⟨(aF d12),false,false⟩),(13,some ⟨(aJ s.2),true,false⟩),(504,some ⟨y5.flatMap (aG .i64),true,false⟩),(508,some ⟨d58.flatMap aJ,true,false⟩)]⟩) (fun d e E=>XEnv Γ (.exit 6) ⟨[(0,⟨.was c0 (.sl a0.length (a0.flatMap aF)),false⟩),(4,⟨.ref 504 1 0 y5.length,false⟩),(5,⟨.sc vt,false⟩),(6,⟨.sc (.int .i64 v7),false⟩),(7,⟨.ptr 7 0,false⟩),(8,⟨.ref 508 3 0 d58.length,false⟩),(13,⟨.ptr 13 0,false⟩)],[(7,some ⟨(aF d12),false,false⟩),(13,some ⟨(aJ d),true,false⟩),(504,some ⟨y5.flatMap (aG .i64),true,false⟩),(508,some ⟨d58.flatMap aJ,true,false⟩)]⟩ e E) hd75 ?_ ?_ ?_;apply el [] (io0 hio _) <;> rfl;clear H hd75;rintro ⟨v67,v68⟩ o H;unfold kR at H;apply g1;refine bF ?_;apply dx;apply sq;refine CodeT.cond rfl (fun h=>?_) (fun h=>?_);replace H:=ifT (of_decide_eq_true h) H;apply CodeT.skip;apply x3;apply sq;apply CodeT.block;apply g1;obtain ⟨y69,hy69,H⟩:=aB H;refine aV ?_ (hy69);refine dH ?_;refine aR false ?_;refine dQ (cells':=(bA y69)) ?_;apply n0;apply Run.op;(apply Local.soft (Soft.agg (cM _));apply hY;rfl;rfl;(first | exact iT rfl | rfl);rfl;(intro h;cases h);(first | exact .inl rfl | exact .inr rfl);rfl);rfl;rfl;refine aD ?_;refine aM ?_;refine aA ?_;refine aA ?_;refine aD ?_;refine aI ?_;obtain ⟨r70,hr70,H⟩:=aB H;refine aH ?_ (ar (av .nil)) (tE y5 y69.fNode _ hr70);obtain ⟨y71,hy71,H⟩:=aB H;refine bW ?_ (hy71);apply Run.op;(apply Local.soft (Soft.agg (cM _));apply hY;rfl;rfl;(exact uF hy71 (fun _=>rfl));rfl;(intro h;cases h);(exact .inr rfl);rfl);rfl;rfl;obtain ⟨r72,hr72,H⟩:=aB H;refine aH ?_ (av (av .nil)) (zF y69.fShare y71 _ hr72);obtain ⟨r73,hr73,H⟩:=aB H;refine aH ?_ (av (avS .nil (Soft.agg (cM _)))) (uO v68 r72 _ hr73);refine bP (cells':=(aJ r73)) ?_;apply Run.done;refine ⟨fun _=>⟨rfl,rfl⟩,?_⟩;apply x5;apply x3;apply rg;refine bC ?_;refine aA ?_;apply dn;obtain rfl:=Option.some.inj H;refine Ev.y1 ?_;apply el [] (io0 hio _) <;> rfl;replace H:=ifF (of_decide_eq_false h) H;apply CodeT.exit;apply x2;obtain rfl:=Option.some.inj H;refine Ev.y3 ?_;refine XEnv.mk ?_;apply el [] (io0 hio _) <;> rfl;skip;intro e E' hX;obtain ⟨rfl,g76⟩:=XEnv.out hX;refine x6 rfl ?_;obtain rfl:=Option.some.inj H;refine Ev.y4 ?_;refine XEnv.mk ?_;refine Ent.trans g76 ?_;apply el [] (io0 hio _) <;> rfl
end Go.Ev
/- The table's growth, by hand. -/
namespace Go.Ev
open Go.Proofs
set_option linter.all false
set_option maxHeartbeats 4000000
def fU {α:Type} (V:List (List α)) (r:List α) (k:Nat):List (List α):=V.zipIdx.map fun p=>if p.2 < k then p.1++(r[p.2]?).toList else p.1
theorem qP {α:Type} (V:List (List α)) (r:List α) (k j:Nat):(fU V r k)[j]?=V[j]?.map fun x=>if j < k then x++(r[j]?).toList else x:=by
  unfold fU
  rw [List.getElem?_map,List.getElem?_zipIdx]
  cases V[j]? <;> simp
theorem mQ {α:Type} (V:List (List α)) (r:List α) (k:Nat):(fU V r k).length=V.length:=by simp [fU]
theorem aFX {α:Type} (V:List (List α)) (r:List α):fU V r 0=V:=by
  apply List.ext_getElem?
  intro j
  rw [qP];simp
theorem aFY {α:Type} {V:List (List α)} {r:List α} {k:Nat} {x:List α} {e:α} (hx:V[k]?=some x) (he:r[k]?=some e):(fU V r k).set k (x++[e])=fU V r (k+1):=by
  apply List.ext_getElem?
  intro j
  rw [qP,List.getElem?_set,qP,mQ]
  by_cases hj:k=j
  · subst hj
    have:=(List.getElem?_eq_some_iff.1 hx).1
    simp [hx,he,this]
    exact (List.getElem?_eq_some_iff.1 hx).2.symm
  · rw [if_neg hj]
    cases hv:V[j]? with
    | none=>simp
    | some y =>
      simp only [Option.map_some,Option.some.injEq]
      by_cases h:j < k
      · rw [if_pos h,if_pos (by omega)]
      · rw [if_neg h,if_neg (by omega)]
theorem aGU {α:Type} {V:List (List α)} {r:List α} {k:Nat} {p:α→Prop} (h1:∀ x ∈ V,∀ e ∈ x,p e) (h2:∀ e ∈ r,p e):∀ x ∈ fU V r k,∀ e ∈ x,p e:=by
  intro x hx e he
  obtain ⟨j,hj⟩:=List.getElem?_of_mem hx
  rw [qP] at hj
  cases hv:V[j]? with
  | none=>rw [hv] at hj;cases hj
  | some y =>
    rw [hv] at hj
    simp only [Option.map_some,Option.some.injEq] at hj
    subst hj
    split at he
    · rcases List.mem_append.1 he with he | he
      · exact h1 y (List.mem_of_getElem? hv) e he
      · cases hr:r[j]? with
        | none=>rw [hr] at he;simp at he
        | some z=>rw [hr] at he;simp at he;subst he;exact h2 e (List.mem_of_getElem? hr)
    · exact h1 y (List.mem_of_getElem? hv) e he
theorem xD (sz:Nat):∀ V:List (List (List Value)),eN (V.map (fM sz))=true
  | []=>rfl
  | r::V=>by simp only [List.map_cons,eN,fM,PV.labs,Bool.true_and];exact xD sz V
theorem aGZ {r:List (List Value)} {j:Nat} {e1 e2 e3:Value} (h:∀ e ∈ r,e.length=3) (hj:r[j]?=some [e1,e2,e3]):((r.flatMap (fun e=>e.map PV.sc)).drop (j*3)).take 3=[.sc e1,.sc e2,.sc e3]:=by
  have hf:=aDK h hj
  apply List.ext_getElem?
  intro i
  rw [List.getElem?_take]
  by_cases hi:i < 3
  · rw [if_pos hi,List.getElem?_drop,hf i hi,List.getElem?_map.symm];rfl
  · rw [if_neg hi,List.getElem?_eq_none (by simp;omega)]
theorem aBd:∀ {r:List (List Value)},(∀ e ∈ r,e.length=3)→(r.flatMap (fun e=>e.map PV.sc)).length=r.length*3
  | [],_=>rfl
  | e::r,h=>by
    rw [List.flatMap_cons,List.length_append,aBd fun e he=>h e (by simp [he])]
    simp [h e (by simp)];omega
theorem aIq {V:List PV} {k:Nat} {p:PV} (hk:k < V.length) (q:PV):((V.set k q).take k++[p]++(V.set k q).drop (k+1))=V.set k p:=by
  apply List.ext_getElem?
  intro j
  rw [List.append_assoc,List.getElem?_append,List.length_take,List.length_set,Nat.min_eq_left (Nat.le_of_lt hk)]
  rw [List.getElem?_set]
  by_cases h1:j < k
  · rw [if_pos h1,if_neg (by omega),List.getElem?_take,if_pos h1,List.getElem?_set,if_neg (by omega)]
  · rw [if_neg h1]
    by_cases h2:k=j
    · subst h2;simp [hk]
    · rw [if_neg h2]
      have:j - k=(j - k - 1)+1:=by omega
      rw [this]
      simp only [List.singleton_append,List.getElem?_cons_succ]
      rw [List.getElem?_drop,List.getElem?_set,if_neg (by omega)]
      congr 1;omega
theorem aHl {V:List PV} {k:Nat} {p:PV} (hk:k < V.length) (q:PV):((V.set k q).take (((k:Int)).toNat*1)++[p]++(V.set k q).drop (((k:Int)).toNat*1+1))=V.set k p:=by
  rw [Int.toNat_natCast,Nat.mul_one];exact aIq hk q
theorem aGJ {l:List PV} {k:Nat} {p q:PV} (h:l[k]?=some p):(l.set k q)[((k:Int)).toNat*1]?=some q:=by
  rw [Int.toNat_natCast,Nat.mul_one];exact dY h
theorem aCl {l d:Nat} {cells:List PV} {dp:Bool} {post:List (Nat × Option Ob)} (h2:aAj (fun p=>zN d p.labs) cells=false) (hd:Nat.beq d 777777777=false) (h3:mY post d=false):∀ pre:List (Nat × Option Ob),mY pre d=false→mY (pre++(l,some ⟨cells,dp,true⟩)::post) d=false
  | [],_=>by simp [mY,h2,h3,hd]
  | (j,none)::r,h=>by simp only [mY,List.cons_append] at h ⊢;exact aCl h2 hd h3 r h
  | (j,some ob)::r,h=>by
    simp only [mY,List.cons_append,Bool.or_eq_false_iff] at h ⊢
    exact ⟨h.1,aCl h2 hd h3 r h.2⟩
theorem aFN {S:List (Nat × Slot)} {O:List (Nat × Option Ob)} (pre post:List (Nat × Option Ob)) {l d:Nat} {cells:List PV} {dp:Bool} (hO:O=pre++(l,some ⟨cells,dp,true⟩)::post) (hS:aBi S d=false) (h1:mY pre d=false) (h2:aAj (fun p=>zN d p.labs) cells=false) (hd:Nat.beq d 777777777=false) (h3:mY post d=false):iZ ⟨S,O⟩ [d]=true:=by
  subst hO
  simp [iZ,pY,hS,aCl h2 hd h3 pre h1]
theorem aG8 (sz n k d L:Nat) (hd:Nat.beq L d=false) (V:List (List (List Value))):aAj (fun p=>zN d p.labs) ((V.map (fM sz)).set k (.ref L sz 0 n))=false:=by
  cases h:aAj (fun p=>zN d p.labs) ((V.map (fM sz)).set k (.ref L sz 0 n)) with
  | false=>rfl
  | true =>
    obtain ⟨p,hp,hl⟩:=(tV _ _).1 h
    rcases List.mem_or_eq_of_mem_set hp with hp | rfl
    · obtain ⟨r,_,rfl⟩:=List.mem_map.1 hp
      simp [fM,PV.labs,zN,uZ] at hl
    · simp [PV.labs,zN,uZ] at hl
      subst hl;simp at hd
theorem Ent.ocast {Γ:Ctx Tryz.prog 124} {S:List (Nat × Slot)} {A:Nat × Option Ob} {l:Nat} {cells cells':List PV} {dp bx:Bool} {O:List (Nat × Option Ob)} (h:cells=cells'):Ent Γ ⟨S,A::(l,some ⟨cells,dp,bx⟩)::O⟩ ⟨S,A::(l,some ⟨cells',dp,bx⟩)::O⟩:=by
  subst h;exact fun _ _ h=>h
noncomputable def g82:Code:=s2 (s2 (s2 (s2 (s2 k82))))
section
attribute [local irreducible] CodeT Ent Meets MeetsX Local lY Res1 RetIs RetX Sim OpT aAW NoLab rU kQ yE wA vE qE aAm XEnv XRet
theorem aI4 {Γ:Ctx Tryz.prog 124} (hio:∀ l,Nat.blt l 100000=true→Γ.io l=none) (hle:∀ b,¬Γ.lent b) {c0 n7 u1 u2 u3:Value} (i:Int) (nodes:List Int) (vs7:List Value) (V:List (List (List Value))) (r:List (List Value)) (hr:r.length=V.length) (he:∀ e ∈ r,e.length=3) (hV:∀ x ∈ V,∀ e ∈ x,e.length=3) (hb:V.length≤1000000) (hb2:∀ x ∈ V,x.length≤1000000) :
    CodeT Γ (s1 g82) ⟨[(0,⟨.sc c0,false⟩),(4,⟨.ref 504 1 0 nodes.length,false⟩),(5,⟨.ref 505 1 0 V.length,false⟩),(6,⟨.sc (.int .i64 i),false⟩),(7,⟨.ptr 7 0,false⟩),(8,⟨.ref 508 3 0 r.length,false⟩),(13,⟨.ptr 13 0,false⟩)],[(7,some ⟨.sc n7::vs7.map .sc,true,false⟩),(13,some ⟨[.sc u1,.sc u2,.sc u3],true,false⟩),(504,some ⟨nodes.flatMap (aG .i64),true,false⟩),(505,some ⟨V.map (fM 3),true,false⟩),(508,some ⟨r.flatMap (fun e=>e.map PV.sc),true,false⟩)]⟩ (XEnv Γ .normal ⟨[(0,⟨.sc c0,false⟩),(4,⟨.ref 504 1 0 nodes.length,false⟩),(5,⟨.ref 505 1 0 V.length,false⟩),(6,⟨.sc (.int .i64 i),false⟩),(7,⟨.ptr 7 0,false⟩),(8,⟨.ref 508 3 0 r.length,false⟩),(13,⟨.ptr 13 0,false⟩)],[(7,some ⟨.sc n7::vs7.map .sc,true,false⟩),(13,some ⟨[.sc u1,.sc u2,.sc u3],true,false⟩),(504,some ⟨nodes.flatMap (aG .i64),true,false⟩),(505,some ⟨(fU V r V.length).map (fM 3),true,false⟩),(508,some ⟨r.flatMap (fun e=>e.map PV.sc),true,false⟩)]⟩):=by
  apply CodeT.seq
  apply CodeT.region (fun _=>PPm)
  apply Run.op;(apply jJ;rfl;rfl);rfl;rfl
  apply Run.op;(apply aH6;rfl;rfl;rfl);rfl;rfl
  apply Run.op;(apply jJ;rfl;rfl);rfl;rfl
  apply Run.done;refine ⟨fun h=>Bool.noConfusion h,?_⟩
  apply x3
  apply CodeT.block
  refine CodeT.loop (fun n E=>∃ k:Nat,n=V.length - k∧k≤V.length∧E=⟨[(0,⟨.sc c0,false⟩),(4,⟨.ref 504 1 0 nodes.length,false⟩),(5,⟨.ref 505 1 0 V.length,false⟩),(6,⟨.sc (.int .i64 i),false⟩),(7,⟨.ptr 7 0,false⟩),(8,⟨.ref 508 3 0 r.length,false⟩),(13,⟨.ptr 13 0,false⟩),(92,⟨.sc (.int .i64 (V.length:Int)),false⟩),(93,⟨.sc (.int .i64 (k:Int)),false⟩)],[(7,some ⟨.sc n7::vs7.map .sc,true,false⟩),(13,some ⟨[.sc u1,.sc u2,.sc u3],true,false⟩),(504,some ⟨nodes.flatMap (aG .i64),true,false⟩),(505,some ⟨(fU V r k).map (fM 3),true,false⟩),(508,some ⟨r.flatMap (fun e=>e.map PV.sc),true,false⟩)]⟩) V.length ⟨[(0,⟨.sc c0,false⟩),(4,⟨.ref 504 1 0 nodes.length,false⟩),(5,⟨.ref 505 1 0 V.length,false⟩),(6,⟨.sc (.int .i64 i),false⟩),(7,⟨.ptr 7 0,false⟩),(8,⟨.ref 508 3 0 r.length,false⟩),(13,⟨.ptr 13 0,false⟩),(92,⟨.sc (.int .i64 (V.length:Int)),false⟩),(93,⟨.sc (.int .i64 ((0:Nat):Int)),false⟩)],[(7,some ⟨.sc n7::vs7.map .sc,true,false⟩),(13,some ⟨[.sc u1,.sc u2,.sc u3],true,false⟩),(504,some ⟨nodes.flatMap (aG .i64),true,false⟩),(505,some ⟨(fU V r 0).map (fM 3),true,false⟩),(508,some ⟨r.flatMap (fun e=>e.map PV.sc),true,false⟩)]⟩ ?_ ⟨0,rfl,Nat.zero_le _,rfl⟩ ?_
  · rw [aFX]
    refine Ent.list [] (io0 hio _) rfl ?_ ?_ <;> (repeat' first | exact trivial | (refine And.intro ⟨_,rfl,fun h=>(by first | rfl | exact Bool.noConfusion h)⟩ ?_))
  · rintro m E ⟨k,rfl,hk,rfl⟩
    apply CodeT.seq
    apply CodeT.region (fun _=>PPm)
    apply Run.op;(apply wN;rfl;rfl;rfl);rfl;rfl
    apply Run.done;refine ⟨fun h=>Bool.noConfusion h,?_⟩
    apply x3
    apply CodeT.seq
    refine CodeT.cond rfl (fun h=>?_) (fun h=>?_)
    · have hlt:k < V.length:=by have:=of_decide_eq_true h;omega
      have hx:=List.getElem?_eq_getElem hlt
      generalize hxx:V[k]=x at hx
      have hlr:k < r.length:=by omega
      have hee:=List.getElem?_eq_getElem hlr
      generalize hexx:r[k]=e at hee
      have hxm:=List.mem_of_getElem? hx
      have hem:=List.mem_of_getElem? hee
      obtain ⟨e1,e',rfl,h1⟩:=aGP (he e hem)
      obtain ⟨e2,eq2,rfl,h2⟩:=aGP h1
      obtain ⟨e3,eq3,rfl,h3⟩:=aGP h2
      obtain rfl:=aIA h3
      have hgx:(fU V r k)[k]?=some x:=by rw [qP,hx];simp
      have hgl:=mQ V r k
      have hcx:((fU V r k).map (fM 3))[k]?=some (.rw 3 x.length (x.flatMap fun e=>e.map PV.sc)):=by rw [List.getElem?_map,hgx];rfl
      have hcl:k < ((fU V r k).map (fM 3)).length:=by simp [hgl,hlt]
      have hix:idx (fU V r k) (k:Int)=some x:=by unfold idx;rw [if_pos (by omega)];simpa using hgx
      have hir:idx r (k:Int)=some [e1,e2,e3]:=by unfold idx;rw [if_pos (by omega)];simpa using hee
      have hxl:=hb2 x hxm
      apply CodeT.skip
      apply x3
      apply CodeT.seq
      apply CodeT.block
      apply CodeT.seq
      apply CodeT.region (fun _=>PPm)
      apply Run.op;(apply jJ;rfl;rfl);rfl;rfl
      apply Run.op;(apply vI;rfl;rfl);rfl;rfl
      apply Run.done;refine ⟨fun h=>Bool.noConfusion h,?_⟩
      apply x3
      refine CodeT.weak (E':=⟨[(0,⟨.sc c0,false⟩),(4,⟨.ref 504 1 0 nodes.length,false⟩),(5,⟨.ref 505 1 0 V.length,false⟩),(6,⟨.sc (.int .i64 i),false⟩),(7,⟨.ptr 7 0,false⟩),(8,⟨.ref 508 3 0 r.length,false⟩),(13,⟨.ptr 13 0,false⟩),(16,⟨.sc (.int .i64 (k:Int)),false⟩),(92,⟨.sc (.int .i64 (V.length:Int)),false⟩),(93,⟨.sc (.int .i64 (k:Int)),false⟩)],[(7,some ⟨.sc n7::vs7.map .sc,true,false⟩),(13,some ⟨[.sc u1,.sc u2,.sc u3],true,false⟩),(504,some ⟨nodes.flatMap (aG .i64),true,false⟩),(505,some ⟨((fU V r k).map (fM 3)).set k (.ref 600 3 0 x.length),true,true⟩),(508,some ⟨r.flatMap (fun e=>e.map PV.sc),true,false⟩),(600,some ⟨x.flatMap fun e=>e.map PV.sc,true,false⟩)]⟩) (Ent.trans (Ent.unpack 505 600 k rfl hcx (by rw [xD];rfl) rfl rfl rfl (io1 hio _) hle) ?_) ?_
      · refine Ent.list [] (io0 hio _) rfl ?_ ?_ <;> (repeat' first | exact trivial | (refine And.intro ⟨_,rfl,fun h=>(by first | rfl | exact Bool.noConfusion h)⟩ ?_))
      apply CodeT.region (fun _=>PPm)
      apply Run.op;(apply jJ;rfl;rfl);rfl;rfl
      apply Run.op;(apply jJ;rfl;rfl);rfl;rfl
      apply Run.op;(apply jJ;rfl;rfl);rfl;rfl
      apply Run.op;(apply jJ;rfl;rfl);rfl;rfl
      apply Run.op;(apply aEA;rfl;rfl;rfl;(exact hix);(exact hgl.symm);rfl);rfl;rfl
      apply Run.op;(apply iE;rfl;rfl;(exact aGJ hcx);(exact .inl rfl);rfl);rfl;rfl
      apply Run.op;(apply jJ;rfl;rfl);rfl;rfl
      apply Run.op;(apply jJ;rfl;rfl);rfl;rfl
      apply Run.op;(apply aEA;rfl;rfl;rfl;(exact hir);rfl;rfl);rfl;rfl
      apply Run.op;(apply hY;rfl;rfl;(exact aGZ he hee);rfl;(intro h;cases h);(exact .inr rfl);rfl);rfl;rfl
      apply Run.op;(apply aGB;rfl;rfl;rfl;rfl;rfl;rfl;rfl;rfl);rfl;rfl
      apply Run.op;(apply yH true;rfl;rfl;rfl;(exact aBd (hV x hxm));rfl;omega;omega;(exact ⟨io1 hio _,io1 hio _⟩);(intro _;rfl);(exact ⟨rfl,rfl⟩);rfl);rfl;(exact aFN [(7,_),(13,_),(504,_)] [(508,_),(600,_)] rfl rfl rfl (aG8 3 _ _ _ _ rfl _) rfl rfl)
      apply Run.op;(apply aEA;rfl;rfl;rfl;(exact hix);(exact hgl.symm);rfl);rfl;rfl
      apply Run.op;(apply aJJ;rfl;rfl;rfl;rfl;rfl;(intro h;cases h);(exact Nat.ble_eq_true_of_le (by simp;omega));(exact aHl hcl _));rfl;rfl
      apply Run.done;refine ⟨fun _=>⟨rfl,rfl⟩,?_⟩
      apply x5
      apply x3
      apply CodeT.region (fun _=>PPm)
      apply Run.op;(apply aI2;rfl;rfl;(exact w64 (n:=(k:Int)+1) (by omega));rfl);rfl;rfl
      apply Run.op;(apply jJ;rfl;rfl);rfl;rfl
      apply Run.done;refine ⟨fun h=>Bool.noConfusion h,?_⟩
      refine x14 (V.length - (k+1)) ⟨[(0,⟨.sc c0,false⟩),(4,⟨.ref 504 1 0 nodes.length,false⟩),(5,⟨.ref 505 1 0 V.length,false⟩),(6,⟨.sc (.int .i64 i),false⟩),(7,⟨.ptr 7 0,false⟩),(8,⟨.ref 508 3 0 r.length,false⟩),(13,⟨.ptr 13 0,false⟩),(92,⟨.sc (.int .i64 (V.length:Int)),false⟩),(93,⟨.sc (.int .i64 ((k+1:Nat):Int)),false⟩)],[(7,some ⟨.sc n7::vs7.map .sc,true,false⟩),(13,some ⟨[.sc u1,.sc u2,.sc u3],true,false⟩),(504,some ⟨nodes.flatMap (aG .i64),true,false⟩),(505,some ⟨(fU V r (k+1)).map (fM 3),true,false⟩),(508,some ⟨r.flatMap (fun e=>e.map PV.sc),true,false⟩)]⟩ (by omega) ?_ ⟨k+1,rfl,hlt,rfl⟩
      have hcells:(((fU V r k).map (fM 3)).set k (.ref 107 3 0 (x.length+1))).set k (.rw 3 (x.length+1) ((x.flatMap fun e=>e.map PV.sc)++[.sc e1,.sc e2,.sc e3]))=(fU V r (k+1)).map (fM 3):=by
        rw [List.set_set,← aFY hx hee,List.map_set]
        congr 1
        simp [fM]
      refine Ent.trans (Ent.pack 505 107 k rfl rfl (by rw [List.getElem?_set,if_pos rfl,if_pos hcl];rfl) rfl (io1 hio _)) ?_
      refine Ent.trans (Ent.ocast hcells) ?_
      refine Ent.trans (Ent.unbox 505 rfl (xD _ _)) ?_
      refine Ent.list [] (io0 hio _) rfl ?_ ?_ <;> (repeat' first | exact trivial | (refine And.intro ⟨_,rfl,fun h=>(by first | rfl | exact Bool.noConfusion h)⟩ ?_))
    · have hge:¬(k:Int) < (V.length:Int):=of_decide_eq_false h
      obtain rfl:k=V.length:=by omega
      apply CodeT.exit
      apply x2
      apply x9
      refine x6 rfl ?_
      refine XEnv.mk ?_
      refine Ent.list [] (io0 hio _) rfl ?_ ?_ <;> (repeat' first | exact trivial | (refine And.intro ⟨_,rfl,fun h=>(by first | rfl | exact Bool.noConfusion h)⟩ ?_))
end
end Go.Ev
/- The table's other pieces, by hand. -/
namespace Go.Ev
open Go.Proofs
set_option linter.all false
set_option maxHeartbeats 4000000
noncomputable def l82:Code:=lpb (blk (s2 (s1 (s2 (s2 (s2 c82))))))
theorem aJj {V:List (List (List Value))} {r:List (List Value)} {u1 u2 u3:Value}:V.map (fM 3)++[.rw 3 (r.length+1) ((r.flatMap fun e=>e.map PV.sc)++[.sc u1,.sc u2,.sc u3])]=(V++[r++[[u1,u2,u3]]]).map (fM 3):=by
  simp [fM]
section
attribute [local irreducible] CodeT Ent Meets MeetsX Local lY Res1 RetIs RetX Sim OpT aAW NoLab rU kQ yE wA vE qE aAm XEnv XRet
theorem aJx {Γ:Ctx Tryz.prog 124} (hio:∀ l,Nat.blt l 100000=true→Γ.io l=none) {c0 u1 u2 u3:Value} (i nd:Int) (nodes:List Int) (vs7:List Value) (V:List (List (List Value))) (r:List (List Value)) (he:∀ e ∈ r,e.length=3) (hb:V.length≤1000000) (hr:r.length≤1000000) (hn:nodes.length≤1000000) :
    CodeT Γ (s2 g82) ⟨[(0,⟨.sc c0,false⟩),(4,⟨.ref 504 1 0 nodes.length,false⟩),(5,⟨.ref 505 1 0 V.length,false⟩),(6,⟨.sc (.int .i64 i),false⟩),(7,⟨.ptr 7 0,false⟩),(8,⟨.ref 508 3 0 r.length,false⟩),(13,⟨.ptr 13 0,false⟩)],[(7,some ⟨.sc (.int .i64 nd)::vs7.map .sc,true,false⟩),(13,some ⟨[.sc u1,.sc u2,.sc u3],true,false⟩),(504,some ⟨nodes.flatMap (aG .i64),true,false⟩),(505,some ⟨V.map (fM 3),true,false⟩),(508,some ⟨r.flatMap (fun e=>e.map PV.sc),true,false⟩)]⟩ (XEnv Γ .normal ⟨[(0,⟨.sc c0,false⟩),(4,⟨.ref 504 1 0 (nodes++[nd]).length,false⟩),(5,⟨.ref 505 1 0 (V.length+1),false⟩),(6,⟨.sc (.int .i64 i),false⟩)],[(504,some ⟨(nodes++[nd]).flatMap (aG .i64),true,false⟩),(505,some ⟨(V++[r++[[u1,u2,u3]]]).map (fM 3),true,false⟩)]⟩):=by
  apply CodeT.seq
  apply CodeT.region (fun _=>PPm)
  apply Run.op;(apply jJ;rfl;rfl);rfl;rfl
  apply Run.op;(apply jJ;rfl;rfl);rfl;rfl
  apply Run.op;(apply hY;rfl;rfl;(exact iT rfl);rfl;(intro h;cases h);(exact .inr rfl);rfl);rfl;rfl
  apply Run.op;(apply aGB;rfl;rfl;rfl;rfl;rfl;rfl;rfl;rfl);rfl;rfl
  apply Run.op;(apply Local.frz 114;apply yH true;rfl;rfl;rfl;(exact aBd he);rfl;omega;omega;(exact ⟨io1 hio _,io1 hio _⟩);(intro _;rfl);(exact ⟨rfl,rfl⟩);rfl;rfl;rfl;(exact io1 hio _);rfl);rfl;rfl
  apply Run.op;(apply aIc;rfl;rfl;rfl;rfl;rfl;rfl;rfl;rfl);rfl;rfl
  apply Run.op;(apply aId;rfl;rfl;rfl;(simp only [List.length_map,Nat.mul_one]);rfl;omega;omega;(exact ⟨io1 hio _,io1 hio _⟩);(exact ⟨aJj,rfl⟩);rfl);rfl;rfl
  apply Run.op;(apply vI;rfl;rfl);rfl;rfl
  apply Run.done;refine ⟨fun h=>Bool.noConfusion h,?_⟩
  apply x3
  apply CodeT.region (fun _=>PPm)
  apply Run.op;(apply jJ;rfl;rfl);rfl;rfl
  apply Run.op;(apply aH7;rfl;rfl;rfl;rfl);rfl;rfl
  apply Run.op;(apply iE;rfl;rfl;rfl;(exact .inr rfl);rfl);rfl;rfl
  apply Run.op;(apply aGB;rfl;rfl;rfl;rfl;rfl;rfl;rfl;rfl);rfl;rfl
  apply Run.op;(apply yH true;rfl;rfl;rfl;(exact cB (l:=nodes) (enc:=aG .i64) (fun _=>rfl));rfl;omega;omega;(exact ⟨io1 hio _,io1 hio _⟩);(intro _;rfl);(exact fI (l:=nodes) (y:=nd) (enc:=aG .i64) (x:=nodes++[nd]) rfl);rfl);rfl;rfl
  apply Run.op;(apply vI;rfl;rfl);rfl;rfl
  apply Run.done;refine ⟨fun h=>Bool.noConfusion h,?_⟩
  refine XEnv.mk ?_
  refine Ent.list [(504,121),(505,116)] (io0 hio _) rfl ?_ ?_ <;> (repeat' first | exact trivial | (refine And.intro ⟨_,rfl,fun h=>(by first | rfl | exact Bool.noConfusion h)⟩ ?_))
theorem aJy {Γ:Ctx Tryz.prog 124} (hio:∀ l,Nat.blt l 100000=true→Γ.io l=none) {c0:Value} (i:Int) (hi:0≤i∧i≤1000000) (nodes:List Int) (V:List (List (List Value))) :
    CodeT Γ (s2 (s2 l82)) ⟨[(0,⟨.sc c0,false⟩),(4,⟨.ref 504 1 0 nodes.length,false⟩),(5,⟨.ref 505 1 0 V.length,false⟩),(6,⟨.sc (.int .i64 i),false⟩)],[(504,some ⟨nodes.flatMap (aG .i64),true,false⟩),(505,some ⟨V.map (fM 3),true,false⟩)]⟩ (XEnv Γ .normal ⟨[(0,⟨.sc c0,false⟩),(4,⟨.ref 504 1 0 nodes.length,false⟩),(5,⟨.ref 505 1 0 V.length,false⟩),(6,⟨.sc (.int .i64 (i - 1)),false⟩)],[(504,some ⟨nodes.flatMap (aG .i64),true,false⟩),(505,some ⟨V.map (fM 3),true,false⟩)]⟩):=by
  apply CodeT.region (fun _=>PPm)
  apply Run.op;(apply jJ;rfl;rfl);rfl;rfl
  apply Run.op;(apply aH4;rfl;rfl;(exact w64 (n:=i - 1) (by omega));rfl);rfl;rfl
  apply Run.op;(apply vI;rfl;rfl);rfl;rfl
  apply Run.done;refine ⟨fun h=>Bool.noConfusion h,?_⟩
  refine XEnv.mk ?_
  refine Ent.list [] (io0 hio _) rfl ?_ ?_ <;> (repeat' first | exact trivial | (refine And.intro ⟨_,rfl,fun h=>(by first | rfl | exact Bool.noConfusion h)⟩ ?_))
theorem aHg {Γ:Ctx Tryz.prog 124} (hio:∀ l,Nat.blt l 100000=true→Γ.io l=none) {c0 vt:Value} {n0:Nat} {cs0:List PV} (i:Int) (nodes:List Int) :
    CodeT Γ (s1 l82) ⟨[(0,⟨.was c0 (.sl n0 cs0),false⟩),(4,⟨.ref 504 1 0 nodes.length,false⟩),(5,⟨.sc vt,false⟩),(6,⟨.sc (.int .i64 i),false⟩)],[(504,some ⟨nodes.flatMap (aG .i64),true,false⟩)]⟩ (fun e E=>(0≤i∧XEnv Γ .normal ⟨[(0,⟨.was c0 (.sl n0 cs0),false⟩),(4,⟨.ref 504 1 0 nodes.length,false⟩),(5,⟨.sc vt,false⟩),(6,⟨.sc (.int .i64 i),false⟩)],[(504,some ⟨nodes.flatMap (aG .i64),true,false⟩)]⟩ e E)∨(¬0≤i∧XEnv Γ (.exit 0) ⟨[(0,⟨.was c0 (.sl n0 cs0),false⟩),(4,⟨.ref 504 1 0 nodes.length,false⟩),(5,⟨.sc vt,false⟩),(6,⟨.sc (.int .i64 i),false⟩)],[(504,some ⟨nodes.flatMap (aG .i64),true,false⟩)]⟩ e E)):=by
  apply CodeT.seq
  apply CodeT.region (fun _=>PPm)
  apply Run.op;(apply jJ;rfl;rfl);rfl;rfl
  apply Run.op;(apply aDR;rfl;rfl;rfl);rfl;rfl
  apply Run.done;refine ⟨fun h=>Bool.noConfusion h,?_⟩
  apply x3
  refine CodeT.cond rfl (fun h=>?_) (fun h=>?_)
  · apply CodeT.skip
    refine .inl ⟨of_decide_eq_true h,XEnv.mk ?_⟩
    refine Ent.list [] (io0 hio _) rfl ?_ ?_ <;> (repeat' first | exact trivial | (refine And.intro ⟨_,rfl,fun h=>(by first | rfl | exact Bool.noConfusion h)⟩ ?_))
  · apply CodeT.exit
    refine .inr ⟨of_decide_eq_false h,XEnv.mk ?_⟩
    refine Ent.list [] (io0 hio _) rfl ?_ ?_ <;> (repeat' first | exact trivial | (refine And.intro ⟨_,rfl,fun h=>(by first | rfl | exact Bool.noConfusion h)⟩ ?_))
theorem aJw {Γ:Ctx Tryz.prog 124} (hio:∀ l,Nat.blt l 100000=true→Γ.io l=none) {c0 vt:Value} {n0:Nat} {cs0:List PV} (i:Int) (nodes:List Int) :
    CodeT Γ (s2 (s2 (s2 (s2 c82)))) ⟨[(0,⟨.was c0 (.sl n0 cs0),false⟩),(4,⟨.ref 504 1 0 nodes.length,false⟩),(5,⟨.sc vt,false⟩),(6,⟨.sc (.int .i64 i),false⟩)],[(504,some ⟨nodes.flatMap (aG .i64),true,false⟩)]⟩ (XEnv Γ .ret ⟨[(2,⟨.sl nodes.length (nodes.flatMap (aG .i64)),true⟩),(3,⟨.sc vt,false⟩)],[]⟩):=by
  apply CodeT.seq
  apply CodeT.region (fun _=>PPm)
  apply Run.op;(apply jJ;rfl;rfl);rfl;rfl
  apply Run.op;(apply jJ;rfl;rfl);rfl;rfl
  apply Run.op;(apply vI;rfl;rfl);rfl;rfl
  apply Run.op;(apply vI;rfl;rfl);rfl;rfl
  apply Run.done;refine ⟨fun h=>Bool.noConfusion h,?_⟩
  apply x3
  apply CodeT.ret
  refine XEnv.mk ?_
  refine Ent.trans (Ent.freeze (k:=2) rfl rfl (io1 hio _) rfl) ?_
  refine Ent.list [] (io0 hio _) rfl ?_ ?_ <;> (repeat' first | exact trivial | (refine And.intro ⟨_,rfl,fun h=>(by first | rfl | exact Bool.noConfusion h)⟩ ?_))
theorem aJ4 {Γ:Ctx Tryz.prog 124} (hio:∀ l,Nat.blt l 100000=true→Γ.io l=none) {c0:Value} {n0:Nat} {cs0:List PV}:CodeT Γ (s1 c82) ⟨[(0,⟨.was c0 (.sl n0 cs0),false⟩)],[]⟩ (XEnv Γ .normal ⟨[(0,⟨.was c0 (.sl n0 cs0),false⟩)],[]⟩):=by
  apply CodeT.region (fun _=>PPm)
  apply Run.op;(apply vI;rfl;rfl);rfl;rfl
  apply Run.op;(apply vI;rfl;rfl);rfl;rfl
  apply Run.done;refine ⟨fun h=>Bool.noConfusion h,?_⟩
  refine XEnv.mk ?_
  refine Ent.list [] (io0 hio _) rfl ?_ ?_ <;> (repeat' first | exact trivial | (refine And.intro ⟨_,rfl,fun h=>(by first | rfl | exact Bool.noConfusion h)⟩ ?_))
theorem aJ3 {Γ:Ctx Tryz.prog 124} (hio:∀ l,Nat.blt l 100000=true→Γ.io l=none) {c0:Value} {n0:Nat} {cs0:List PV}:CodeT Γ (s1 (s2 c82)) ⟨[(0,⟨.was c0 (.sl n0 cs0),false⟩)],[]⟩ (XEnv Γ .normal ⟨[(0,⟨.was c0 (.sl n0 cs0),false⟩),(4,⟨.ref 504 1 0 1,false⟩)],[(504,some ⟨([0]:List Int).flatMap (aG .i64),true,false⟩)]⟩):=by
  apply CodeT.region (fun _=>PPm)
  apply Run.op;(apply aJt;rfl;rfl;rfl;rfl;rfl;rfl;rfl;(exact io1 hio _);rfl);rfl;rfl
  apply Run.op;(apply vI;rfl;rfl);rfl;rfl
  apply Run.done;refine ⟨fun h=>Bool.noConfusion h,?_⟩
  refine XEnv.mk ?_
  refine Ent.list [(504,17)] (io0 hio _) rfl ?_ ?_ <;> (repeat' first | exact trivial | (refine And.intro ⟨_,rfl,fun h=>(by first | rfl | exact Bool.noConfusion h)⟩ ?_))
theorem aJ2 {Γ:Ctx Tryz.prog 124} (hio:∀ l,Nat.blt l 100000=true→Γ.io l=none) {c0:Value} {n0:Nat} {cs0:List PV} (r0:Rat) (hr:dU 0=some r0):CodeT Γ (s1 (s2 (s2 c82))) ⟨[(0,⟨.was c0 (.sl n0 cs0),false⟩),(4,⟨.ref 504 1 0 1,false⟩)],[(504,some ⟨([0]:List Int).flatMap (aG .i64),true,false⟩)]⟩ (XEnv Γ .normal ⟨[(0,⟨.was c0 (.sl n0 cs0),false⟩),(4,⟨.ref 504 1 0 1,false⟩),(5,⟨.rw 1 1 [.rw 3 1 (aJ r0)],true⟩)],[(504,some ⟨([0]:List Int).flatMap (aG .i64),true,false⟩)]⟩):=by
  apply CodeT.region (fun _=>PPm)
  apply Run.op;(apply eJ;((apply ArgsV.cons;(apply ArgV.val;rfl;rfl));(apply ArgsV.nil));(exact jT 0 _ hr);rfl;rfl;rfl);rfl;rfl
  apply Run.op;(apply aGA;rfl;rfl;rfl;rfl;rfl;rfl;rfl;rfl);rfl;rfl
  apply Run.op;(apply aGA;rfl;rfl;rfl;rfl;rfl;rfl;rfl;rfl);rfl;rfl
  apply Run.op;(apply aEC;rfl;rfl;rfl);rfl;rfl
  apply Run.done;refine ⟨fun h=>Bool.noConfusion h,?_⟩
  refine XEnv.mk ?_
  refine Ent.list [] (io0 hio _) rfl ?_ ?_ <;> (repeat' first | exact trivial | (refine And.intro ⟨_,rfl,fun h=>(by first | rfl | exact Bool.noConfusion h)⟩ ?_))
theorem aJ1 {Γ:Ctx Tryz.prog 124} (hio:∀ l,Nat.blt l 100000=true→Γ.io l=none) {c0:Value} (a0:List Conditional) (r0:Rat) (hl:a0.length≤1000000):CodeT Γ (s1 (s1 (s2 (s2 (s2 c82))))) ⟨[(0,⟨.was c0 (.sl a0.length (a0.flatMap aF)),false⟩),(4,⟨.ref 504 1 0 1,false⟩),(5,⟨.rw 1 1 [.rw 3 1 (aJ r0)],true⟩)],[(504,some ⟨([0]:List Int).flatMap (aG .i64),true,false⟩)]⟩ (XEnv Γ .normal ⟨[(0,⟨.was c0 (.sl a0.length (a0.flatMap aF)),false⟩),(4,⟨.ref 504 1 0 1,false⟩),(5,⟨.rw 1 1 [.rw 3 1 (aJ r0)],true⟩),(6,⟨.sc (.int .i64 ((a0.length:Int) - 1)),false⟩)],[(504,some ⟨([0]:List Int).flatMap (aG .i64),true,false⟩)]⟩):=by
  apply CodeT.region (fun _=>PPm)
  apply Run.op;(apply jJ;rfl;rfl);rfl;rfl
  apply Run.op;(apply aI1;rfl;rfl);rfl;rfl
  apply Run.op;(apply aH4;rfl;rfl;(exact w64 (n:=(a0.length:Int) - 1) (by omega));rfl);rfl;rfl
  apply Run.op;(apply vI;rfl;rfl);rfl;rfl
  apply Run.done;refine ⟨fun h=>Bool.noConfusion h,?_⟩
  refine XEnv.mk ?_
  refine Ent.list [] (io0 hio _) rfl ?_ ?_ <;> (repeat' first | exact trivial | (refine And.intro ⟨_,rfl,fun h=>(by first | rfl | exact Bool.noConfusion h)⟩ ?_))
end
end Go.Ev
/- The covariance table, joined. -/
namespace Go.Ev
open Go.Proofs
set_option linter.all false
set_option maxHeartbeats 4000000
noncomputable def cJ (a0:List Conditional):(Int × List Int × List (List Rat))→Option ((Int × List Int × List (List Rat)) ⊕ (List Int × List (List Rat))):=fun s =>
  if 0≤s.1 then
    (oG a0 s.2.1 s.1 s.2.2).bind fun c=>(oF a0 s.2.1 s.1 c s.2.2).bind fun _=>(oE a0 s.2.1 s.1 c s.2.2).bind fun row =>
    (oD a0 s.2.1 s.1 row c s.2.2).bind fun own0=>(oB a0 s.2.1 s.1 row c own0 s.2.2).bind fun own =>
    (chk (row.length=s.2.2.length∧s.2.2.length≤1000000∧s.2.1.length≤1000000∧s.1≤1000000∧∀ x ∈ s.2.2,x.length≤1000000)).bind fun _ =>
    some (.inl (s.1 - 1,s.2.1++[c.fNode],fU s.2.2 row s.2.2.length++[row++[own]]))
  else some (.inr (s.2.1,s.2.2))
noncomputable def rX (a0:List Conditional):Option (List Int × List (List Rat)) :=
  (chk (a0.length≤1000000)).bind fun _=>(dU 0).bind fun r0=>lp (cJ a0) ((a0.length:Int) - 1,[0],[[r0]])
def RdT (Γ:Ctx Tryz.prog 124) (V:List (List (List Value))) (R:List (List Rat)):Prop :=
  V.length=R.length∧(∀ (k:Nat) r row,V[k]?=some r→R[k]?=some row→r.length=row.length)∧∀ (k j:Nat) r row e y,V[k]?=some r→R[k]?=some row→r[j]?=some e→row[j]?=some y→OldL Γ e (aP y)
theorem OldL.mono {Γ Γ':Ctx Tryz.prog 124} (h:∀ v p,OldF Γ v p→OldF Γ' v p):∀ {vs:List Value} {ps:List PV},OldL Γ vs ps→OldL Γ' vs ps
  | [],[],_=>trivial
  | v::vs,p::ps,⟨h1,h2⟩=>⟨h v p h1,OldL.mono h h2⟩
  | [],_::_,h=>h.elim
  | _::_,[],h=>h.elim
theorem RdT.mono {Γ Γ':Ctx Tryz.prog 124} (h:∀ v p,OldF Γ v p→OldF Γ' v p) {V:List (List (List Value))} {R:List (List Rat)} (hr:RdT Γ V R):RdT Γ' V R :=
  ⟨hr.1,hr.2.1,fun k j r row e y h1 h2 h3 h4=>OldL.mono h (hr.2.2 k j r row e y h1 h2 h3 h4)⟩
theorem aIY {Γ:Ctx Tryz.prog 124}:∀ {row:List Rat} {vs:List Value},OldL Γ vs (row.flatMap aP)→∃ r:List (List Value),r.length=row.length∧(∀ e ∈ r,e.length=3)∧vs.map PV.sc=r.flatMap (fun e=>e.map PV.sc)∧∀ (j:Nat) e y,r[j]?=some e→row[j]?=some y→OldL Γ e (aP y)
  | [],[],_=>⟨[],rfl,by simp,rfl,by simp⟩
  | [],_::_,h=>h.elim
  | y::row,vs,h=>by
    have e:(y::row).flatMap aP=.sc (.bool y.fNum.fNeg)::.sl y.fNum.fMag.length (y.fNum.fMag.flatMap (aG .i64))::.sl y.fDen.length (y.fDen.flatMap (aG .i64))::row.flatMap aP:=by
      rw [List.flatMap_cons];rfl
    rw [e] at h
    match vs,h with
    | [],h=>exact h.elim
    | [_],h=>exact h.2.elim
    | [_,_],h=>exact h.2.2.elim
    | v1::v2::v3::vs,⟨h1,h2,h3,h4⟩ =>
      obtain ⟨r,g1,g2,g3,g4⟩:=aIY h4
      refine ⟨[v1,v2,v3]::r,by simp [g1],?_,by simp [g3],?_⟩
      · intro e he
        rcases List.mem_cons.1 he with rfl | he
        · rfl
        · exact g2 e he
      · intro j e y' hj hy
        cases j with
        | zero=>simp at hj hy;subst hj;subst hy;exact ⟨h1,h2,h3,trivial⟩
        | succ j=>exact g4 j e y' (by simpa using hj) (by simpa using hy)
def Inv (Γ0:Ctx Tryz.prog 124) (c0:Value) (a0:List Conditional) (s:Int × List Int × List (List Rat)) (a:Act) (w:World):Prop :=
  ∃ (Γ:Ctx Tryz.prog 124) (vt:Value) (V:List (List (List Value))) (Bs:List Nat),Later Γ0 Γ∧OldF Γ c0 (.sl a0.length (a0.flatMap aF))∧Foreign Γ 3 vt V Bs∧(∀ b ∈ Bs,Γ0.base≤b)∧s.2.2≠[]∧RdT Γ V s.2.2∧Sim Γ ⟨[(0,⟨.was c0 (.sl a0.length (a0.flatMap aF)),false⟩),(4,⟨.ref 504 1 0 s.2.1.length,false⟩),(5,⟨.sc vt,false⟩),(6,⟨.sc (.int .i64 s.1),false⟩)],[(504,some ⟨s.2.1.flatMap (aG .i64),true,false⟩)]⟩ a w
theorem aAQ {Γ0 Γ:Ctx Tryz.prog 124} (h:Later Γ0 Γ):∀ l,Nat.blt l 100000=true→Γ.io l=none:=fun l _=>h.io0 l
theorem aJC {Γ:Ctx Tryz.prog 124} {V:List (List (List Value))} {R:List (List Rat)} {r:List (List Value)} {row:List Rat} {e0:List Value} {y0:Rat} (h:RdT Γ V R) (hr:r.length=row.length) (hro:∀ (j:Nat) e y,r[j]?=some e→row[j]?=some y→OldL Γ e (aP y)) (h0:OldL Γ e0 (aP y0)) :
    RdT Γ (fU V r V.length++[r++[e0]]) (fU R row R.length++[row++[y0]]):=by
  obtain ⟨h1,h2,h3⟩:=h
  have key:∀ (k:Nat) x rx,(fU V r V.length++[r++[e0]])[k]?=some x→(fU R row R.length++[row++[y0]])[k]?=some rx →
      ∃ x' rx' e' y',x=x'++e'∧rx=rx'++y'∧x'.length=rx'.length∧e'.length=y'.length∧(∀ (j:Nat) e y,x'[j]?=some e→rx'[j]?=some y→OldL Γ e (aP y))∧∀ (j:Nat) e y,e'[j]?=some e→y'[j]?=some y→OldL Γ e (aP y):=by
    intro k x rx hx hrx
    by_cases hk:k < V.length
    · rw [List.getElem?_append_left (by rw [mQ];exact hk),qP] at hx
      rw [List.getElem?_append_left (by rw [mQ];omega),qP] at hrx
      have hk':k < R.length:=by omega
      simp only [hk,if_true] at hx
      simp only [hk',if_true] at hrx
      cases hv:V[k]? with
      | none=>rw [hv] at hx;cases hx
      | some x0 =>
        cases hw:R[k]? with
        | none=>rw [hw] at hrx;cases hrx
        | some rx0 =>
          rw [hv] at hx;rw [hw] at hrx
          simp only [Option.map_some,Option.some.injEq] at hx hrx
          refine ⟨x0,rx0,_,_,hx.symm,hrx.symm,h2 k _ _ hv hw,?_,fun j e y he hy=>h3 k j _ _ e y hv hw he hy,?_⟩
          · cases ha:r[k]? with
            | none =>
              have:row[k]?=none:=List.getElem?_eq_none (by have:=List.getElem?_eq_none_iff.1 ha;omega)
              rw [this];rfl
            | some a =>
              have hl:=(List.getElem?_eq_some_iff.1 ha).1
              rw [List.getElem?_eq_getElem (show k < row.length by omega)];rfl
          · intro j e y he hy
            cases ha:r[k]? with
            | none=>rw [ha] at he;simp at he
            | some a =>
              have hl:=(List.getElem?_eq_some_iff.1 ha).1
              have hb:=List.getElem?_eq_getElem (show k < row.length by omega)
              rw [ha] at he;rw [hb] at hy
              cases j with
              | zero=>simp at he hy;subst he;subst hy;exact hro k _ _ ha hb
              | succ j=>simp at he
    · rw [List.getElem?_append_right (by rw [mQ];omega),mQ] at hx
      rw [List.getElem?_append_right (by rw [mQ];omega),mQ] at hrx
      by_cases hk2:k=V.length
      · subst hk2
        rw [← h1] at hrx
        simp at hx hrx
        refine ⟨r,row,[e0],[y0],hx.symm,hrx.symm,hr,rfl,hro,?_⟩
        intro j e y he hy
        cases j with
        | zero=>simp at he hy;subst he;subst hy;exact h0
        | succ j=>simp at he
      · rw [List.getElem?_eq_none (by simp;omega)] at hx;cases hx
  refine ⟨by simp [mQ,h1],fun k x rx hx hrx=>?_,fun k j x rx e y hx hrx he hy=>?_⟩
  · obtain ⟨x',rx',e',y',rfl,rfl,g1,g2,_⟩:=key k x rx hx hrx
    simp [g1,g2]
  · obtain ⟨x',rx',e',y',rfl,rfl,g1,g2,g3,g4⟩:=key k x rx hx hrx
    by_cases hj:j < x'.length
    · rw [List.getElem?_append_left hj] at he
      rw [List.getElem?_append_left (by omega)] at hy
      exact g3 j e y he hy
    · rw [List.getElem?_append_right (by omega)] at he
      rw [List.getElem?_append_right (by omega),← g1] at hy
      exact g4 _ e y he hy
theorem aIU {Γ0 Γ:Ctx Tryz.prog 124} (hL:Later Γ0 Γ) {c0:Value} {a0:List Conditional} (hc:OldF Γ c0 (.sl a0.length (a0.flatMap aF))) {i:Int} {nodes:List Int} {V:List (List (List Value))} (hV:V≠[]) (hsz:∀ r ∈ V,∀ e ∈ r,e.length=3) {a:Act} {w:World} (hs:Sim Γ ⟨[(0,⟨.sc c0,false⟩),(4,⟨.ref 504 1 0 nodes.length,false⟩),(5,⟨.ref 505 1 0 V.length,false⟩),(6,⟨.sc (.int .i64 i),false⟩)],[(504,some ⟨nodes.flatMap (aG .i64),true,false⟩),(505,some ⟨V.map (fM 3),true,false⟩)]⟩ a w) :
    ∃ (Γ':Ctx Tryz.prog 124) (vt:Value) (Bs:List Nat),Later Γ0 Γ'∧OldF Γ' c0 (.sl a0.length (a0.flatMap aF))∧Foreign Γ' 3 vt V Bs∧(∀ b ∈ Bs,Γ0.base≤b)∧(∀ v p,OldF Γ v p→OldF Γ' v p)∧Sim Γ' ⟨[(0,⟨.was c0 (.sl a0.length (a0.flatMap aF)),false⟩),(4,⟨.ref 504 1 0 nodes.length,false⟩),(5,⟨.sc vt,false⟩),(6,⟨.sc (.int .i64 i),false⟩)],[(504,some ⟨nodes.flatMap (aG .i64),true,false⟩)]⟩ a w:=by
  have hio:=aAQ hL
  have hs1:=Ent.freezeW (k:=5) (l:=505) (S:=_) (O:=_) rfl rfl (io1 hio _) rfl a w hs
  have hs2:Sim Γ ⟨(5,⟨.rw 1 V.length (V.map (fM 3)),true⟩)::[(0,⟨.sc c0,false⟩),(4,⟨.ref 504 1 0 nodes.length,false⟩),(6,⟨.sc (.int .i64 i),false⟩)],[(504,some ⟨nodes.flatMap (aG .i64),true,false⟩)]⟩ a w:=by
    refine (?_:Ent Γ _ _) a w hs1
    refine Ent.list [] (io0 hio _) rfl ?_ ?_ <;> (repeat' first | exact trivial | (refine And.intro ⟨_,rfl,fun h=>(by first | rfl | exact Bool.noConfusion h)⟩ ?_))
  obtain ⟨vt,B,h1,h2,h3,h4⟩:=Sim.abandon hL rfl hs2 rfl (by simp only [aA0,Bool.and_true];exact vP (fun _=>rfl) _)
  obtain ⟨Γ',g1,g2,g3,g4,_,g6⟩:=h4 B [] (fun _ h=>h) (by simp) (by simp)
  refine ⟨Γ',vt,B,g1,g6 _ _ hc,⟨⟨by rw [g3];exact h1,h2,fun b hb=>by rw [g3];exact (h3 b hb).2,hsz⟩,g4⟩,fun b hb=>(h3 b hb).1,g6,?_⟩
  have hs3:=Ent.wake (k:=0) rfl (g6 _ _ hc) a w g2
  have hio:=aAQ g1
  refine (?_:Ent Γ' _ _) a w hs3
  refine Ent.list [] (io0 hio _) rfl ?_ ?_ <;> (repeat' first | exact trivial | (refine And.intro ⟨_,rfl,fun h=>(by first | rfl | exact Bool.noConfusion h)⟩ ?_))
theorem aHn {Γ0:Ctx Tryz.prog 124} {c0:Value} {a0:List Conditional} {s s':Int × List Int × List (List Rat)} {Q:Exit→Act→World→Prop} (h0:0≤s.1) (hst:cJ a0 s=some (.inl s')) (hQ:∀ a w,Inv Γ0 c0 a0 s' a w→Q .normal a w) {a:Act} {w:World} (hI:Inv Γ0 c0 a0 s a w):l82.wp Tryz.prog Q a w:=by
  obtain ⟨i,nodes,R⟩:=s
  unfold cJ at hst
  rw [if_pos h0] at hst
  obtain ⟨c,hP1,hst⟩:=aB hst
  obtain ⟨u,hP2,hst⟩:=aB hst
  obtain ⟨row,hP3,hst⟩:=aB hst
  obtain ⟨own0,hP4,hst⟩:=aB hst
  obtain ⟨own,hP5,hst⟩:=aB hst
  obtain ⟨_,hck,hst⟩:=aB hst
  have hck:=cQ hck
  injection hst with hst;injection hst with hst
  subst hst
  obtain ⟨Γ,vt,V,Bs,hL,hc,hF,hB0,hR,hRd,hs⟩:=hI
  simp only at h0 hP1 hP2 hP3 hP4 hP5 hck hR hRd hs hQ
  obtain ⟨k1,k2,k3,k4,k5⟩:=hck
  have hio:=aAQ hL
  obtain ⟨d1,d2,d3⟩:=hRd
  have hlen0:0 < R.length:=List.length_pos_iff.2 hR
  show (Code.seq (s1 l82) (.seq (.block 1 k82) (s2 (s2 l82)))).wp _ _ _ _
  refine wp_seq (wp_mono (aHg hio i nodes a w hs) fun e a1 w1 ⟨E',hs1,he⟩=>?_)
  obtain ⟨_,heX⟩:=he.resolve_right (fun h=>h.1 h0)
  obtain ⟨rfl,heY⟩:=heX.out
  have hs:=heY a1 w1 hs1
  clear he heX heY
  refine wp_seq (wp_block ?_)
  show (Code.seq (s1 k82) (.seq (s1 (s2 k82)) (.seq (s1 (s2 (s2 k82))) (.seq (s1 (s2 (s2 (s2 k82)))) (.seq (s1 (s2 (s2 (s2 (s2 k82))))) (.seq (s1 g82) (s2 g82))))))).wp _ _ _ _
  refine oX (zT hio hL.io0 hF a0 nodes i R d1 d2 d3 c hP1) hs fun a2 w2 hs=>?_
  refine oX (zS hio hL.io0 hF a0 nodes i c R d1 d2 d3 u hP2) hs fun a2 w2 hs=>?_
  refine oX (zR hio hL.io0 hF a0 nodes i c R d1 d2 d3 row hP3) hs fun a2 w2 hs=>?_
  refine oX (zQ hio hL.io0 hF a0 nodes i row c R d1 d2 d3 own0 hP4) hs fun a2 w2 hs=>?_
  refine oX (zP hio hL.io0 hF a0 nodes i row c own0 R d1 d2 d3 own hP5) hs fun a2 w2 hs=>?_
  have hs:=Ent.soften (l:=13) rfl (cM own) a2 w2 hs
  have hs:=Ent.soften (l:=508) rfl (SoftL.flat cM row) a2 w2 hs
  have hs:=Ent.undeep 13 rfl a2 w2 hs
  have hs:=Ent.undeep 508 rfl a2 w2 hs
  have hs:Sim Γ ⟨[(0,⟨.was c0 (.sl a0.length (a0.flatMap aF)),false⟩),(4,⟨.ref 504 1 0 nodes.length,false⟩),(5,⟨.sc vt,false⟩),(6,⟨.sc (.int .i64 i),false⟩),(7,⟨.ptr 7 0,false⟩),(8,⟨.ref 508 3 0 row.length,false⟩),(13,⟨.ptr 13 0,false⟩)],[(7,some ⟨aF c,false,false⟩),(13,some ⟨aP own,false,false⟩),(504,some ⟨nodes.flatMap (aG .i64),true,false⟩),(508,some ⟨row.flatMap aP,false,false⟩)]⟩ a2 w2:=by
    refine (?_:Ent Γ _ _) a2 w2 hs
    refine Ent.list [] (io0 hio _) rfl ?_ ?_ <;> (repeat' first | exact trivial | (refine And.intro ⟨_,rfl,fun h=>(by first | rfl | exact Bool.noConfusion h)⟩ ?_))
  obtain ⟨vr,hvr,hs⟩:=Sim.expose hs 508 rfl (by rw [cB (sz:=3) (fun _=>rfl)];omega)
  obtain ⟨vo,hvo,hs⟩:=Sim.expose hs 13 rfl (by show 0 < 3;omega)
  obtain ⟨vc,hvc,hs⟩:=Sim.expose hs 7 rfl (by show 0 < 5;omega)
  have hs:Sim Γ ⟨[(0,⟨.was c0 (.sl a0.length (a0.flatMap aF)),false⟩),(4,⟨.ref 504 1 0 nodes.length,false⟩),(5,⟨.sc vt,false⟩),(6,⟨.sc (.int .i64 i),false⟩),(7,⟨.ptr 7 0,false⟩),(8,⟨.ref 508 3 0 row.length,false⟩),(13,⟨.ptr 13 0,false⟩)],[(7,some ⟨wz vc (aF c),false,false⟩),(13,some ⟨wz vo (aP own),false,false⟩),(504,some ⟨nodes.flatMap (aG .i64),true,false⟩),(508,some ⟨wz vr (row.flatMap aP),false,false⟩)]⟩ a2 w2:=by
    refine (?_:Ent Γ _ _) a2 w2 hs
    refine Ent.list [] (io0 hio _) rfl ?_ ?_ <;> (repeat' first | exact trivial | (refine And.intro ⟨_,rfl,fun h=>(by first | rfl | exact Bool.noConfusion h)⟩ ?_))
  have nr:eV (nodes.flatMap (aG .i64))=true:=vP (fun _=>rfl) _
  have nl:∀ {α:Type} {e:α→List PV},(∀ y,eN (e y)=true)→∀ l:List α,eN (l.flatMap e)=true:=by
    intro α e he l
    induction l with
    | nil=>rfl
    | cons y r ih =>
      rw [List.flatMap_cons]
      have:∀ a b:List PV,eN a=true→eN b=true→eN (a++b)=true:=by
        intro a b
        induction a with
        | nil=>intro _ h;exact h
        | cons x r ih=>intro h1 h2;simp only [eN,List.cons_append,Bool.and_eq_true] at h1 ⊢;exact ⟨h1.1,ih h1.2 h2⟩
      exact this _ _ (he y) ih
  obtain ⟨Γ1,hL1,hs,hob,hm1,hf1⟩:=Sim.reb hL hs rfl (by simp only [yM,nr,Bool.or_true,Bool.and_true,Bool.not_false,Bool.true_or])
  have oR:=hob 508 vr (row.flatMap aP) false rfl hvr (nl (fun _=>rfl) _)
  have oO:=hob 13 vo (aP own) false rfl hvo rfl
  have oC:=hob 7 vc (aF c) false rfl hvc rfl
  obtain ⟨r,r1,r2,r3,r4⟩:=aIY oR
  have hio1:=aAQ hL1
  have hs:=Ent.sleepZ 7 rfl hvc a2 w2 hs
  have hs:=Ent.sleepZ 13 rfl hvo a2 w2 hs
  have hs:=Ent.sleepZ 508 rfl hvr a2 w2 hs
  have hs:=Ent.sleep (k:=0) rfl a2 w2 hs
  rw [r3] at hs
  obtain ⟨n7,vs7,rfl⟩:∃ n7 vs7,vc=n7::vs7:=by
    cases vc with
    | nil=>cases hvc
    | cons a b=>exact ⟨a,b,rfl⟩
  obtain ⟨u1,u2,u3,rfl⟩:∃ u1 u2 u3,vo=[u1,u2,u3]:=by
    match vo,hvo with
    | [x,y,z],_=>exact ⟨x,y,z,rfl⟩
  have hn7:n7=.int .i64 c.fNode:=by
    obtain ⟨⟨_,B,hb,_⟩,_⟩:=oC
    simp only [RelV] at hb;exact hb.1
  subst hn7
  have hs:Sim Γ1 ⟨[(0,⟨.sc c0,false⟩),(4,⟨.ref 504 1 0 nodes.length,false⟩),(5,⟨.sc vt,false⟩),(6,⟨.sc (.int .i64 i),false⟩),(7,⟨.ptr 7 0,false⟩),(8,⟨.ref 508 3 0 row.length,false⟩),(13,⟨.ptr 13 0,false⟩)],[(7,some ⟨.sc (.int .i64 c.fNode)::vs7.map .sc,true,false⟩),(13,some ⟨[.sc u1,.sc u2,.sc u3],true,false⟩),(504,some ⟨nodes.flatMap (aG .i64),true,false⟩),(508,some ⟨r.flatMap (fun e=>e.map PV.sc),true,false⟩)]⟩ a2 w2:=by
    have hio:=hio1
    refine (?_:Ent Γ1 _ _) a2 w2 hs
    refine Ent.list [] (io0 hio _) rfl ?_ ?_ <;> (repeat' first | exact trivial | (refine And.intro ⟨_,rfl,fun h=>(by first | rfl | exact Bool.noConfusion h)⟩ ?_))
  have hF1:=hf1 _ _ _ _ hF
  obtain ⟨Γ2,hL2,hs,hm2⟩:=Sim.adopt hL1 hs hF1 hB0 (by rintro rfl;simp at d1;omega) 5 505 rfl rfl rfl
  have hio2:=aAQ hL2
  have hs:Sim Γ2 ⟨[(0,⟨.sc c0,false⟩),(4,⟨.ref 504 1 0 nodes.length,false⟩),(5,⟨.ref 505 1 0 V.length,false⟩),(6,⟨.sc (.int .i64 i),false⟩),(7,⟨.ptr 7 0,false⟩),(8,⟨.ref 508 3 0 r.length,false⟩),(13,⟨.ptr 13 0,false⟩)],[(7,some ⟨.sc (.int .i64 c.fNode)::vs7.map .sc,true,false⟩),(13,some ⟨[.sc u1,.sc u2,.sc u3],true,false⟩),(504,some ⟨nodes.flatMap (aG .i64),true,false⟩),(505,some ⟨V.map (fM 3),true,false⟩),(508,some ⟨r.flatMap (fun e=>e.map PV.sc),true,false⟩)]⟩ a2 w2:=by
    have hio:=hio2
    refine (?_:Ent Γ2 _ _) a2 w2 hs
    rw [← r1.symm.trans rfl]
    refine Ent.list [] (io0 hio _) rfl ?_ ?_ <;> (repeat' first | exact trivial | (refine And.intro ⟨_,rfl,fun h=>(by first | rfl | exact Bool.noConfusion h)⟩ ?_))
  have hszV:=hF.tab.2.2.2
  have hb2:∀ x ∈ V,x.length≤1000000:=by
    intro x hx
    obtain ⟨j,hj⟩:=List.getElem?_of_mem hx
    have hjl:=(List.getElem?_eq_some_iff.1 hj).1
    have hj2:=List.getElem?_eq_getElem (show j < R.length by omega)
    rw [d2 j x _ hj hj2]
    exact k5 _ (List.mem_of_getElem? hj2)
  refine oX (aI4 hio2 hL2.le0 i nodes vs7 V r (by omega) r2 hszV (by omega) hb2) hs fun a3 w3 hs=>?_
  have hgl:(fU V r V.length).length=V.length:=mQ _ _ _
  have hs:Sim Γ2 ⟨[(0,⟨.sc c0,false⟩),(4,⟨.ref 504 1 0 nodes.length,false⟩),(5,⟨.ref 505 1 0 (fU V r V.length).length,false⟩),(6,⟨.sc (.int .i64 i),false⟩),(7,⟨.ptr 7 0,false⟩),(8,⟨.ref 508 3 0 r.length,false⟩),(13,⟨.ptr 13 0,false⟩)],[(7,some ⟨.sc (.int .i64 c.fNode)::vs7.map .sc,true,false⟩),(13,some ⟨[.sc u1,.sc u2,.sc u3],true,false⟩),(504,some ⟨nodes.flatMap (aG .i64),true,false⟩),(505,some ⟨(fU V r V.length).map (fM 3),true,false⟩),(508,some ⟨r.flatMap (fun e=>e.map PV.sc),true,false⟩)]⟩ a3 w3:=by
    have e:(⟨[(0,⟨.sc c0,false⟩),(4,⟨.ref 504 1 0 nodes.length,false⟩),(5,⟨.ref 505 1 0 (fU V r V.length).length,false⟩),(6,⟨.sc (.int .i64 i),false⟩),(7,⟨.ptr 7 0,false⟩),(8,⟨.ref 508 3 0 r.length,false⟩),(13,⟨.ptr 13 0,false⟩)],[(7,some ⟨.sc (.int .i64 c.fNode)::vs7.map .sc,true,false⟩),(13,some ⟨[.sc u1,.sc u2,.sc u3],true,false⟩),(504,some ⟨nodes.flatMap (aG .i64),true,false⟩),(505,some ⟨(fU V r V.length).map (fM 3),true,false⟩),(508,some ⟨r.flatMap (fun e=>e.map PV.sc),true,false⟩)]⟩:Env)=⟨[(0,⟨.sc c0,false⟩),(4,⟨.ref 504 1 0 nodes.length,false⟩),(5,⟨.ref 505 1 0 V.length,false⟩),(6,⟨.sc (.int .i64 i),false⟩),(7,⟨.ptr 7 0,false⟩),(8,⟨.ref 508 3 0 r.length,false⟩),(13,⟨.ptr 13 0,false⟩)],[(7,some ⟨.sc (.int .i64 c.fNode)::vs7.map .sc,true,false⟩),(13,some ⟨[.sc u1,.sc u2,.sc u3],true,false⟩),(504,some ⟨nodes.flatMap (aG .i64),true,false⟩),(505,some ⟨(fU V r V.length).map (fM 3),true,false⟩),(508,some ⟨r.flatMap (fun e=>e.map PV.sc),true,false⟩)]⟩:=by rw [hgl]
    rw [e];exact hs
  refine wp_mono (aJx hio2 i c.fNode nodes vs7 (fU V r V.length) r r2 (by omega) (by omega) k3 a3 w3 hs) fun e a4 w4 ⟨E4,hs4,he4⟩=>?_
  obtain ⟨rfl,he5⟩:=he4.out
  have hs:=he5 a4 w4 hs4
  show (s2 (s2 l82)).wp _ _ _ _
  have hs:Sim Γ2 ⟨[(0,⟨.sc c0,false⟩),(4,⟨.ref 504 1 0 (nodes++[c.fNode]).length,false⟩),(5,⟨.ref 505 1 0 (fU V r V.length++[r++[[u1,u2,u3]]]).length,false⟩),(6,⟨.sc (.int .i64 i),false⟩)],[(504,some ⟨(nodes++[c.fNode]).flatMap (aG .i64),true,false⟩),(505,some ⟨(fU V r V.length++[r++[[u1,u2,u3]]]).map (fM 3),true,false⟩)]⟩ a4 w4:=by
    have e:(fU V r V.length++[r++[[u1,u2,u3]]]).length=(fU V r V.length).length+1:=by simp
    rw [e];exact hs
  refine wp_mono (aJy hio2 i ⟨h0,k4⟩ (nodes++[c.fNode]) (fU V r V.length++[r++[[u1,u2,u3]]]) a4 w4 hs) fun e a5 w5 ⟨E5,hs5,he5⟩=>?_
  obtain ⟨rfl,he6⟩:=he5.out
  have hs:=he6 a5 w5 hs5
  obtain ⟨Γ3,vt3,Bs3,f1,f2,f3,f4,f5,f6⟩:=aIU hL2 (hm2 _ _ (hm1 _ _ hc)) (by simp) (fun x hx=>by
    rcases List.mem_append.1 hx with hx | hx
    · exact aGU hszV r2 x hx
    · simp at hx;subst hx
      intro e he
      rcases List.mem_append.1 he with he | he
      · exact r2 e he
      · simp at he;subst he;rfl) hs
  refine hQ a5 w5 ⟨Γ3,vt3,_,Bs3,f1,f2,f3,f4,by simp,?_,f6⟩
  refine aJC (RdT.mono (fun v p h=>f5 _ _ (hm2 _ _ (hm1 _ _ h))) (⟨d1,d2,d3⟩:RdT Γ V R)) r1 (fun j e y he hy=>OldL.mono (fun v p h=>f5 _ _ (hm2 _ _ h)) (r4 j e y he hy)) (OldL.mono (fun v p h=>f5 _ _ (hm2 _ _ h)) oO)
theorem aET {Γ:Ctx Tryz.prog 124} {cs:Array Value}:∀ {r:List (List Value)} {row:List Rat} {i:Nat},r.length=row.length→RelL Γ.w0.heap true dead (r.flatMap fun e=>e.map PV.sc) cs i []→(∀ e ∈ r,e.length=3)→(∀ (j:Nat) e y,r[j]?=some e→row[j]?=some y→OldL Γ e (aP y)) →
    ∃ B,RelL Γ.w0.heap true dead (row.flatMap aP) cs i B∧∀ b ∈ B,Γ.ok b∧b < Γ.base∧¬Γ.mine b
  | [],[],i,_,_,_,_=>⟨[],by simp [RelL],by simp⟩
  | e::r,y::row,i,hl,H,h3,ho=>by
    rw [List.flatMap_cons] at H
    obtain ⟨O1,O2,g1,g2,g3⟩:=(RelL.append _ _ _ _ _).1 H
    obtain ⟨rfl,rfl⟩:O1=[]∧O2=[]:=by simpa using g3.symm
    have he:=h3 e (by simp)
    rw [show i+(e.map PV.sc).length=i+3 by simp [he]] at g2
    obtain ⟨B2,k1,k2⟩:=aET (by simpa using hl) g2 (fun x hx=>h3 x (by simp [hx])) (fun j e y h1 h2=>ho (j+1) e y (by simpa using h1) (by simpa using h2))
    have h0:=ho 0 e y rfl rfl
    have key:∀ (vs:List Value) (ps:List PV) (i:Nat),OldL Γ vs ps→RelL Γ.w0.heap true dead (vs.map PV.sc) cs i []→∃ B,RelL Γ.w0.heap true dead ps cs i B∧∀ b ∈ B,Γ.ok b∧b < Γ.base∧¬Γ.mine b:=by
      intro vs
      induction vs with
      | nil=>intro ps i ho H;cases ps with
        | nil=>exact ⟨[],by simp [RelL],by simp⟩
        | cons=>exact ho.elim
      | cons v vs ih =>
        intro ps i ho H
        cases ps with
        | nil=>exact ho.elim
        | cons p ps =>
          obtain ⟨⟨_,B1,b1,b2⟩,ho⟩:=ho
          simp only [List.map_cons,RelL,RelV] at H
          obtain ⟨c,Oa,Ob,c1,⟨rfl,rfl⟩,c2,c3⟩:=H
          have:Ob=[]:=by simpa using c3.symm
          subst this
          obtain ⟨B2,d1,d2⟩:=ih ps (i+1) ho c2
          refine ⟨B1++B2,by simp only [RelL];exact ⟨_,B1,B2,c1,b1,d1,rfl⟩,fun b hb=>?_⟩
          rcases List.mem_append.1 hb with hb | hb
          · exact ⟨(b2 b hb).1,(b2 b hb).2.1,(b2 b hb).2.2.1.1⟩
          · exact d2 b hb
    obtain ⟨B1,f1,f2⟩:=key e (aP y) i h0 g1
    refine ⟨B1++B2,?_,fun b hb=>?_⟩
    · rw [List.flatMap_cons]
      exact (RelL.append _ _ _ _ _).2 ⟨B1,B2,f1,by rw [show i+(aP y).length=i+3 from rfl];exact k1,rfl⟩
    · rcases List.mem_append.1 hb with hb | hb
      · exact f2 b hb
      · exact k2 b hb
  | [],_::_,_,hl,_,_,_=>by simp at hl
  | _::_,[],_,hl,_,_,_=>by simp at hl
theorem aEN {Γ:Ctx Tryz.prog 124} {cs:Array Value}:∀ {V:List (List (List Value))} {R:List (List Rat)} {i:Nat} {O:List Nat},V.length=R.length→RelL Γ.w0.heap true dead (V.map (fM 3)) cs i O→(∀ r ∈ V,∀ e ∈ r,e.length=3)→(∀ (k:Nat) r row,V[k]?=some r→R[k]?=some row→r.length=row.length)→(∀ (k j:Nat) r row e y,V[k]?=some r→R[k]?=some row→r[j]?=some e→row[j]?=some y→OldL Γ e (aP y)) →
    ∃ B,RelL Γ.w0.heap true dead (R.flatMap (aBR aP)) cs i B∧∀ b ∈ B,b ∈ O∨(Γ.ok b∧b < Γ.base∧¬Γ.mine b)
  | [],[],i,O,_,_,_,_,_=>⟨[],by simp [RelL],by simp⟩
  | r::V,row::R,i,O,hl,H,h3,h4,h5=>by
    simp only [List.map_cons,RelL] at H
    obtain ⟨c,O1,O2,c1,c2,c3,rfl⟩:=H
    obtain ⟨B2,k1,k2⟩:=aEN (by simpa using hl) c3 (fun x hx=>h3 x (by simp [hx])) (fun k r row a b=>h4 (k+1) r row (by simpa using a) (by simpa using b)) (fun k j r row e y a b=>h5 (k+1) j r row e y (by simpa using a) (by simpa using b))
    have hlen:=h4 0 r row rfl rfl
    have:∃ B1,RelV Γ.w0.heap dead (.sl row.length (row.flatMap aP)) c B1∧∀ b ∈ B1,b ∈ O1∨(Γ.ok b∧b < Γ.base∧¬Γ.mine b):=by
      unfold fM at c2
      simp only [RelV] at c2 ⊢
      rcases c2 with ⟨e1,e2,e3,e4⟩ | ⟨b,cap,cs2,t,O',⟨e1,e2,_⟩,e3,e4,rfl⟩
      · have hrow:row=[]:=List.length_eq_zero_iff.1 (by omega)
        subst hrow
        exact ⟨[],.inl ⟨rfl,rfl,rfl,none,0,by rw [e4]⟩,by simp⟩
      · have:O'=[]:=jR _ (xC r) e4
        subst this
        obtain ⟨B,q1,q2⟩:=aET hlen e4 (h3 r (by simp)) (fun j e y a b=>h5 0 j r row e y rfl rfl a b)
        refine ⟨b::B,.inr ⟨b,0,cap,cs2,t,(0,0),B,⟨by rw [e1,hlen],by omega⟩,e3,q1,rfl⟩,fun x hx=>?_⟩
        rcases List.mem_cons.1 hx with rfl | hx
        · exact .inl (by simp)
        · exact .inr (q2 x hx)
    obtain ⟨B1,f1,f2⟩:=this
    refine ⟨B1++B2,?_,fun b hb=>?_⟩
    · rw [List.flatMap_cons]
      show RelL _ _ _ (.sl row.length (row.flatMap aP)::R.flatMap (aBR aP)) cs i (B1++B2)
      simp only [RelL]
      exact ⟨c,B1,B2,c1,f1,k1,rfl⟩
    · rcases List.mem_append.1 hb with hb | hb
      · exact (f2 b hb).imp (fun h=>by simp [h]) id
      · exact (k2 b hb).imp (fun h=>by simp [h]) id
  | [],_::_,_,_,hl,_,_,_,_=>by simp at hl
  | _::_,[],_,_,hl,_,_,_,_=>by simp at hl
theorem aJg {h:Array Obj} {cs:Array Value} {D:List Nat} (r0:Rat) (H:RelL h true dead (aJ r0) cs 0 D):∃ v1 v2 v3,RelL h true dead ([[v1,v2,v3]].flatMap fun e=>e.map PV.sc) cs 0 []∧∀ Γ:Ctx Tryz.prog 124,Γ.w0.heap=h→(∀ b ∈ D,Γ.ok b∧b < Γ.base∧(¬Γ.mine b∧¬Γ.lent b)∧∀ l,Γ.io l≠some b)→OldL Γ [v1,v2,v3] (aP r0):=by
  have H2:RelL h true dead [.sc (.bool r0.fNum.fNeg),.rw 1 r0.fNum.fMag.length (r0.fNum.fMag.flatMap (aG .i64)),.rw 1 r0.fDen.length (r0.fDen.flatMap (aG .i64))] cs 0 D:=H
  simp only [RelL] at H2
  obtain ⟨v1,D1,E1,h1,h2,⟨v2,D2,E2,h3,h4,⟨v3,D3,E3,h5,h6,rfl,rfl⟩,rfl⟩,rfl⟩:=H2
  refine ⟨v1,v2,v3,?_,fun Γ hΓ hb=>?_⟩
  · simp only [List.flatMap_cons,List.flatMap_nil,List.append_nil,List.map_cons,List.map_nil,RelL,RelV]
    exact ⟨v1,[],[],h1,⟨rfl,rfl⟩,⟨v2,[],[],h3,⟨rfl,rfl⟩,⟨v3,[],[],h5,⟨rfl,rfl⟩,rfl,rfl⟩,rfl⟩,rfl⟩
  · exact ⟨⟨rfl,D1,by rw [hΓ];exact h2,fun b h=>hb b (by simp [h])⟩,⟨rfl,D2,by rw [hΓ];exact Soft.rw (SoftL.refl _) _ _ _ _ h4,fun b h=>hb b (by simp [h])⟩,⟨rfl,D3,by rw [hΓ];exact Soft.rw (SoftL.refl _) _ _ _ _ h6,fun b h=>hb b (by simp [h])⟩,trivial⟩
theorem aHE {Γ0:Ctx Tryz.prog 124} {c0:Value} {a0:List Conditional} {s:Int × List Int × List (List Rat)} {r:List Int × List (List Rat)} {n:Nat} (hn:Reach (cJ a0) s r n):∀ a w,Inv Γ0 c0 a0 s a w→Code.rounds Tryz.prog l82 (Exit.inBlock 0 (fun e a w=>e=.normal∧∃ i,Inv Γ0 c0 a0 (i,r.1,r.2) a w)) (n+1) a w:=by
  induction hn with
  | @done s r e =>
    intro a w hI
    rw [rounds_succ]
    have hneg:¬0≤s.1:=by
      intro h0
      unfold cJ at e
      rw [if_pos h0] at e
      obtain ⟨_,_,e⟩:=aB e
      obtain ⟨_,_,e⟩:=aB e
      obtain ⟨_,_,e⟩:=aB e
      obtain ⟨_,_,e⟩:=aB e
      obtain ⟨_,_,e⟩:=aB e
      obtain ⟨_,_,e⟩:=aB e
      cases e
    have hr:r=(s.2.1,s.2.2):=by
      unfold cJ at e
      rw [if_neg hneg] at e
      injection e with e;injection e with e;exact e.symm
    subst hr
    obtain ⟨Γ,vt,V,Bs,hL,hc,hF,hB0,hR,hRd,hs⟩:=hI
    show (Code.seq (s1 l82) (.seq (.block 1 k82) (s2 (s2 l82)))).wp _ _ _ _
    refine wp_seq (wp_mono (aHg (aAQ hL) s.1 s.2.1 a w hs) fun e a1 w1 ⟨E',hs1,he⟩=>?_)
    obtain ⟨_,heX⟩:=he.resolve_left (fun h=>hneg h.1)
    obtain ⟨rfl,heY⟩:=heX.out
    exact ⟨rfl,s.1,Γ,vt,V,Bs,hL,hc,hF,hB0,hR,hRd,heY a1 w1 hs1⟩
  | @more s s' r m e g ih =>
    intro a w hI
    rw [rounds_succ]
    have h0:0≤s.1:=by
      rcases Classical.em (0≤s.1) with h | h
      · exact h
      · unfold cJ at e
        rw [if_neg h] at e
        cases e
    exact aHn h0 e (fun a w hI=>ih a w hI) hI
theorem aBx (a0:List Conditional) (r:List Int × List (List Rat)) (H:rX a0=some r):Meets Tryz.prog 82 [.sl a0.length (a0.flatMap aF)] (.tup [.sl r.1.length (r.1.flatMap (aG .i64)),.sl r.2.length (r.2.flatMap (aBR aP))]) false:=by
  obtain ⟨_,hck,H⟩:=aB H
  obtain ⟨r0,hr0,H⟩:=aB H
  have hlen:=cQ hck
  obtain ⟨n,hn⟩:=aAI.1 H
  refine Meets.introRaw (N:=124) (c:=c82) Tryz.func82 rfl rfl (by decide) rfl ?_
  intro Γ0 c0 a w hL0 hc0 hs
  have hio:=aAQ hL0
  show (Code.seq (s1 c82) (.seq (s1 (s2 c82)) (.seq (s1 (s2 (s2 c82))) (.seq (.seq (s1 (s1 (s2 (s2 (s2 c82))))) (.block 0 (.loop l82))) (s2 (s2 (s2 (s2 c82)))))))).wp _ _ _ _
  refine oX (aJ4 hio) hs fun a w hs=>?_
  refine oX (aJ3 hio) hs fun a w hs=>?_
  refine oX (aJ2 hio r0 hr0) hs fun a w hs=>?_
  have body:∀ a w,Inv Γ0 c0 a0 ((a0.length:Int) - 1,[0],[[r0]]) a w→(Code.block 0 (.loop l82)).wp Tryz.prog (fun e a w=>e=.normal∧∃ i,Inv Γ0 c0 a0 (i,r.1,r.2) a w) a w:=fun a w hI=>wp_block (wp_loop_rounds (n+1) (aHE hn a w hI))
  refine wp_seq (oX (aJ1 hio a0 r0 hlen) hs fun a w hs=>?_)
  have hs:=Ent.sleep (k:=0) rfl a w hs
  have hs2:Sim Γ0 ⟨(5,⟨.rw 1 1 [.rw 3 1 (aJ r0)],true⟩)::[(0,⟨.sc c0,false⟩),(4,⟨.ref 504 1 0 1,false⟩),(6,⟨.sc (.int .i64 ((a0.length:Int) - 1)),false⟩)],[(504,some ⟨([0]:List Int).flatMap (aG .i64),true,false⟩)]⟩ a w:=by
    refine (?_:Ent Γ0 _ _) a w hs
    refine Ent.list [] (io0 hio _) rfl ?_ ?_ <;> (repeat' first | exact trivial | (refine And.intro ⟨_,rfl,fun h=>(by first | rfl | exact Bool.noConfusion h)⟩ ?_))
  obtain ⟨vt,B,h1,h2,h3,h4⟩:=Sim.abandon hL0 rfl hs2 rfl rfl
  have hI0:Inv Γ0 c0 a0 ((a0.length:Int) - 1,[0],[[r0]]) a w:=by
    simp only [RelV] at h1
    rcases h1 with ⟨h,_⟩ | ⟨bt,cap,cs,t,O',⟨e1,e2,e3⟩,e4,e5,rfl⟩
    · cases h
    simp only [RelL] at e5
    obtain ⟨c,O1,O2,⟨f1,f1c⟩,f2,f3,rfl⟩:=e5
    subst f3
    simp only [RelV] at f2
    rcases f2 with ⟨h,_⟩ | ⟨br,cap2,cs2,t2,D,⟨p1,p2,p3⟩,p4,p5,rfl⟩
    · cases h
    simp only [List.append_nil] at h2 h3 h4
    have n1:=List.nodup_cons.1 h2
    have n2:=List.nodup_cons.1 n1.2
    obtain ⟨Γ',g1,g2,g3,g4,g5,g6⟩:=h4 [bt,br] D (by simp +contextual) (by simp +contextual) (by
      intro b hb
      simp at hb
      rcases hb with rfl | rfl
      · exact fun h=>n1.1 (by simp [h])
      · exact n2.1)
    obtain ⟨v1,v2,v3,q3,q4⟩:=aJg r0 p5
    have hO:OldL Γ' [v1,v2,v3] (aP r0):=q4 Γ' (by rw [g3]) g5
    have hcells:RelL w.heap true dead ([[v1,v2,v3]].flatMap fun e=>e.map PV.sc) cs2 0 []:=q3
    refine ⟨Γ',vt,[[[v1,v2,v3]]],[bt,br],g1,g6 _ _ hc0,⟨⟨?_,by simp;intro h;exact n1.1 (by simp [h]),?_,by simp⟩,g4⟩,fun b hb=>(h3 b (by simp at hb ⊢;rcases hb with h | h <;> simp [h])).1,by simp,?_,?_⟩
    · rw [g3]
      simp only [RelV]
      refine .inr ⟨bt,cap,cs,t,[br],⟨e1,e2,e3⟩,e4,?_,rfl⟩
      simp only [List.map_cons,List.map_nil,RelL]
      refine ⟨c,[br],[],⟨f1,f1c⟩,?_,rfl,rfl⟩
      unfold fM
      simp only [RelV]
      exact .inr ⟨br,cap2,cs2,t2,[],⟨p1,p2,p3⟩,p4,hcells,rfl⟩
    · rw [g3];intro b hb;exact (h3 b (by simp at hb ⊢;rcases hb with h | h <;> simp [h])).2
    · refine ⟨rfl,?_,?_⟩
      · intro k x row hx hrow
        cases k with
        | zero=>simp at hx hrow;subst hx;subst hrow;rfl
        | succ k=>simp at hx
      · intro k j x row e y hx hrow he hy
        cases k with
        | zero =>
          simp at hx hrow;subst hx;subst hrow
          cases j with
          | zero=>simp at he hy;subst he;subst hy;exact hO
          | succ j=>simp at he
        | succ k=>simp at hx
    · have hs3:=Ent.wake (k:=0) rfl (g6 _ _ hc0) a w g2
      have hio:=aAQ g1
      refine (?_:Ent Γ' _ _) a w hs3
      refine Ent.list [] (io0 hio _) rfl ?_ ?_ <;> (repeat' first | exact trivial | (refine And.intro ⟨_,rfl,fun h=>(by first | rfl | exact Bool.noConfusion h)⟩ ?_))
  refine wp_mono (body a w hI0) fun e a1 w1 ⟨he,i,hI⟩=>?_
  subst he
  obtain ⟨Γ,vt,V,Bs,hL,hc,hF,hB0,hR,hRd,hs⟩:=hI
  show (s2 (s2 (s2 (s2 c82)))).wp _ _ _ _
  refine wp_mono (aJw (aAQ hL) i r.1 a1 w1 hs) fun e a2 w2 ⟨E',hs2,he⟩=>?_
  obtain ⟨rfl,heY⟩:=he.out
  obtain ⟨ow,β,hs3⟩:=heY a2 w2 hs2
  refine ⟨.inr rfl,hL.now hs3.kept,hs3.defers,?_⟩
  obtain ⟨B2,s21,s22,_⟩:=hs3.slots 2
  obtain ⟨B3,s31,_,_⟩:=hs3.slots 3
  have s21:RelV w2.heap β (.sl r.1.length (r.1.flatMap (aG .i64))) (a2.tmps.getD 2 undef) B2:=s21
  have s31:RelV w2.heap β (.sc vt) (a2.tmps.getD 3 undef) B3:=s31
  simp only [RelV] at s31
  obtain ⟨s31,_⟩:=s31
  have hrun:(results Tryz.f82 a2.tmps).run Tryz.prog w2=.ok (.tuple #[a2.tmps.getD 2 undef,a2.tmps.getD 3 undef]) w2:=by
    refine aAs (rv1:=.tmp 2) (rv2:=.tmp 3) rfl _ _ ?_ ?_ <;> simp [lS]
  obtain ⟨t1,t2,t3,t4⟩:=hF.tab
  simp only [RelV] at t1
  rcases t1 with ⟨h,_⟩ | ⟨bt,cap,cs,t,O',⟨e1,e2,e3⟩,e4,e5,rfl⟩
  · exfalso;have:=hRd.1;rw [h] at this;exact hR (List.length_eq_zero_iff.1 this.symm)
  obtain ⟨B,f1,f2⟩:=aEN hRd.1 e5 t4 hRd.2.1 hRd.2.2
  have hkeep:∀ b ∈ bt::B,w2.heap[b]?=Γ.w0.heap[b]?:=by
    intro b hb
    rcases List.mem_cons.1 hb with rfl | hb
    · exact hF.still hL.io0 hs3.kept (by simp)
    · rcases f2 b hb with h | h
      · exact hF.still hL.io0 hs3.kept (by simp [h])
      · exact hs3.kept.old b h.2.1 (fun l=>by rw [hL.io0];simp) h.2.2
  refine ⟨_,B2++(bt::B),hrun,?_,fun b hb=>?_⟩
  · simp only [RelV]
    refine ⟨_,rfl,rfl,?_⟩
    simp only [RelL]
    refine ⟨_,B2,bt::B,⟨rfl,fun h=>by cases h⟩,RelV.nolab rfl s21,⟨_,bt::B,[],⟨rfl,fun h=>by cases h⟩,?_,rfl,by simp⟩,rfl⟩
    rw [s31]
    refine RelV.keep (β:=dead) _ _ _ (fun l _=>KeepB.dead _ _ l) hkeep ?_
    simp only [RelV]
    exact .inr ⟨bt,0,cap,cs,t,(0,0),B,⟨by rw [e1,hRd.1];rfl,by rw [← hRd.1];exact e2⟩,e4,f1,rfl⟩
  · rcases List.mem_append.1 hb with hb | hb
    · exact hL.good b (s22 b hb).2.1
    · rcases List.mem_cons.1 hb with rfl | hb
      · exact .inr (hB0 b (by simp))
      · rcases f2 b hb with h | h
        · exact .inr (hB0 b (by simp [h]))
        · exact hL.good b (.inl h.1)
end Go.Ev
