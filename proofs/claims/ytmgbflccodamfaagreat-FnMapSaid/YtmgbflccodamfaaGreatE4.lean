/- Parts EvX, EvY, EvZ, EvW, EvAA, EvBB, EvCC, EvDD, EvEE, EvFF, EvGG, EvHH, EvII, EvJJ, EvKK, EvLL, EvMM, EvNN, EvOO. -/
import Derived.Test.YtmgbflccodamfaaGreatE3
import Derived.Laws.Tables
import Derived.Great.FillDense
set_option linter.all false
set_option maxHeartbeats 4000000
set_option maxRecDepth 20000
/- The engine, part X: results that are rows of the caller's own. -/
namespace Go.Ev
open Go.RowKit (Below)
section
variable {P:Program}{N:Nat}{Γ:Ctx P N}{S:List (Nat×Slot)}{O:List (Nat×Option Ob)}{ow:Nat->Own}{β:Nat->Option (Option Nat)}{F:Env}{a:Act}{w:World}
structure Rows (us:List (Nat×Option Ob))(h:Array Obj)(blk:Nat->Option (Option Nat))(nest:Nat->List Nat)(B:List Nat):Prop where
 ob:∀ l∈us.map (·.1),∃ cells,lo us l=some ⟨cells,true,false⟩/\((blk l=some none/\cells=[]/\nest l=[])\/∃ b cs t,blk l=some (some b)/\h[b]?=some (.cells cs t (0,0))/\RelL h true dead cells cs 0 (nest l))
 nd:∀ l∈us.map (·.1),(nest l).Nodup/\∀ c∈nest l,c∈B
 inB:∀ l∈us.map (·.1),∀ b,blk l=some (some b)->b∈B
 bb:∀ l∈us.map (·.1),∀ l'∈us.map (·.1),∀ b,blk l=some (some b)->blk l'=some (some b)->l=l'
 bn:∀ l∈us.map (·.1),∀ l'∈us.map (·.1),∀ b,blk l=some (some b)->b∉nest l'
 nn:∀ l∈us.map (·.1),∀ l'∈us.map (·.1),∀ c,c∈nest l->c∈nest l'->l=l'
theorem SimG.growLayX (h:SimG Γ ow β F a w){w':World}(hb:Below w.heap.size w w'){us:List (Nat×Option Ob)}{blk:Nat->Option (Option Nat)}{nest:Nat->List Nat}{B:List Nat}(hr:Rows us w'.heap blk nest B)
 (hB:∀ b∈B,w.heap.size<=b/\gA w' b) (hnl:∀ l∈us.map (·.1),NoLab F l) (hio:∀ l∈us.map (·.1),Γ.io l=none) :
 ∃ ow' β',(∀ l∈us.map (·.1),β' l=blk l)/\(∀ b,(¬∃ l,l∈us.map (·.1)/\blk l=some (some b))->(¬∃ l,l∈us.map (·.1)/\b∈nest l)->ow' b=ow b)/\SimG Γ ow' β' (F.app ⟨[],us⟩) a w':=by
 classical
 let β':Nat->Option (Option Nat):=fun l=>if l∈us.map (·.1)then blk l else β l
 have hex:∀ b,∃ o:Own,(∀ l,l∈us.map (·.1)->blk l=some (some b)->o=.lab l)/\(∀ l,l∈us.map (·.1)->b∈nest l->o=.obj l)/\((¬∃ l,l∈us.map (·.1)/\blk l=some (some b))->(¬∃ l,l∈us.map (·.1)/\b∈nest l)->o=ow b):=by
  intro b
  rcases aWq (∃ l,l∈us.map (·.1)/\blk l=some (some b))with⟨l,h1,h2⟩ | hh
  · exact⟨.lab l,fun l' h1' h2'=>by rw[hr.bb l h1 l' h1' b h2 h2'],fun l' h1' h2'=>absurd h2' (hr.bn l h1 l' h1' b h2),fun hh=>absurd ⟨l,h1,h2⟩ hh⟩
  · rcases aWq (∃ l,l∈us.map (·.1)/\b∈nest l)with⟨l,h1,h2⟩ | hn
    · exact⟨.obj l,fun l' h1' h2'=>absurd ⟨l',h1',h2'⟩ hh,fun l' h1' h2'=>by rw[hr.nn l h1 l' h1' b h2 h2'],fun _ hn=>absurd ⟨l,h1,h2⟩ hn⟩
    · exact⟨ow b,fun l' h1' h2'=>absurd ⟨l',h1',h2'⟩ hh,fun l' h1' h2'=>absurd ⟨l',h1',h2'⟩ hn,fun _ _=>rfl⟩
 obtain⟨ow',how⟩:=Classical.axiomOfChoice hex
 have hβ1:∀ l,l∈us.map (·.1)->β' l=blk l:=fun l hl=>by show(if _ then _ else _)=_;rw[aUs hl]
 have hβ2:∀ l,l∉us.map (·.1)->β' l=β l:=fun l hl=>by show(if _ then _ else _)=_;rw[aUq hl]
 have how1:∀ b l,l∈us.map (·.1)->blk l=some (some b)->ow' b=.lab l:=fun b l h1 h2=>(how b).1 l h1 h2
 have how2:∀ b l,l∈us.map (·.1)->b∈nest l->ow' b=.obj l:=fun b l h1 h2=>(how b).2.1 l h1 h2
 have how3:∀ b,b<w.heap.size->ow' b=ow b:=by
  intro b hlt
  have hh:¬∃ l,l∈us.map (·.1)/\blk l=some (some b):=fun⟨l',h1,h2⟩=>by have:=(hB b (hr.inB l' h1 b h2)).1;omega
  have hn:¬∃ l,l∈us.map (·.1)/\b∈nest l:=fun⟨l',h1,h2⟩=>by have:=(hB b ((hr.nd l' h1).2 b h2)).1;omega
  exact(how b).2.2 hh hn
 have hlt':∀ b,gA w' b->b<w'.heap.size:=by
  rintro b ⟨cs,t,e⟩
  rcases aVA b w'.heap.size with h | h
  · exact h
  · simp[aVd h]at e
 have hIm:∀ b,Im Γ ow w b->Im Γ ow' w' b:=fun b ⟨h1,h2,h3⟩=>⟨aUN h1 hb.size,h2,fun l=>by rw[how3 b h1];exact h3 l⟩
 have hFree:∀ b,b<w.heap.size->gA w b->gA w' b:=fun b hlt ⟨cs,t,hc⟩=>⟨cs,t,by rw[hb.block b hlt];exact hc⟩
 have hkeep:∀ m,m∉us.map (·.1)->KeepB w.heap w'.heap β β' m:=by
  intro m hm o ho
  rw[hβ2 m hm]at ho
  refine⟨ho,fun b hob cs t hc=>⟨cs,?_,rfl⟩⟩
  subst hob
  rw[hb.block b (h.block_lt ho)];exact hc
 refine⟨ow',β',hβ1,fun b h1 h2=>(how b).2.2 h1 h2,{ size:=h.size,defers:=h.defers,kept:=?_,slots:=fun k=>?_,objs:=fun l ob hl=>?_,gone:=fun l hl=>?_,own:=fun b hb'=>?_,ios:=fun m b hm hs=>?_,fresh:=fun l b hl hi=>?_ }⟩
 · exact⟨hb.os.trans h.kept.os,hb.output.trans h.kept.output,hb.tape.trans h.kept.tape,aUE h.kept.size hb.size,
    fun b h1 h2 hmi=>(hb.block b (aUN h1 h.kept.size)).trans (h.kept.old b h1 h2 hmi),
    fun b h1 hmi cs t h2=>by
     obtain⟨cs',h3,h4⟩:=h.kept.ios b h1 hmi cs t h2
     exact⟨cs',by rw[hb.block b (aUN h1 h.kept.size)];exact h3,h4⟩⟩
 · obtain⟨B',h1,h2,h3⟩:=h.slots k
   refine⟨B',aXt _ _ _ (fun l hl=>hkeep l (fun e=>(hnl l e).1 k hl)) (fun b hbO=>hb.block b (h2 b hbO).1) h1,fun b hbO=>hIm b (h2 b hbO),fun hd=>⟨(h3 hd).1,fun b hbO=>⟨?_,hFree b (h2 b hbO).1 ((h3 hd).2 b hbO).2⟩⟩⟩
   rw[how3 b (h2 b hbO).1];exact((h3 hd).2 b hbO).1
 · simp only[Env.app]at hl
   by_cases hm:l∈us.map (·.1)
   · rw[dG _ _ _ hm]at hl
     obtain⟨cells,e1,g⟩:=hr.ob l hm
     rw[e1]at hl;cases hl
     have hnB:=hr.nd l hm
     refine⟨nest l,fun b hbn=>⟨hlt' b (hB b (hnB.2 b hbn)).2,.inr (.inl (.inl (aUE h.kept.size (hB b (hnB.2 b hbn)).1))),fun l'=>by rw[how2 b l hm hbn];simp⟩,fun _=>⟨hnB.1,fun b hbn=>⟨how2 b l hm hbn,(hB b (hnB.2 b hbn)).2⟩⟩,?_⟩
     rcases g with⟨g1,g2,g3⟩ | ⟨b,cs,t,g1,g2,g3⟩
     · exact .inl ⟨(hβ1 l hm).trans g1,g2,g3⟩
     · exact .inr ⟨b,cs,t,(hβ1 l hm).trans g1,how1 b l hm g1,g2,by simpa using g3⟩
   · rw[bZ _ _ _ hm]at hl
     obtain⟨B',h1,h2,h3⟩:=h.objs l ob hl
     refine⟨B',fun b hbO=>hIm b (h1 b hbO),fun hd=>⟨(h2 hd).1,fun b hbO=>⟨by rw[how3 b (h1 b hbO).1];exact((h2 hd).2 b hbO).1,hFree b (h1 b hbO).1 ((h2 hd).2 b hbO).2⟩⟩,?_⟩
     rcases h3 with⟨g1,g2,g3⟩ | ⟨b,cs,t,g1,g2,g3,g4⟩
     · exact .inl ⟨(hβ2 l hm).trans g1,g2,g3⟩
     · refine .inr ⟨b,cs,t,(hβ2 l hm).trans g1,by rw[how3 b (h.block_lt g1)];exact g2,by rw[hb.block b (h.block_lt g1)];exact g3,?_⟩
       cases hbx:ob.box with
       | true=>rw[hbx]at g4;exact aXr _ _ _ _ (fun p hp m hm'=>hkeep m (fun e=>(hnl m e).2.1 l ob hl hbx p hp hm')) (fun b hbO=>hb.block b (h1 b hbO).1) g4
       | false=>rw[hbx]at g4;exact aXr _ _ _ _ (fun _ _ l _=>aXF _ _ l) (fun b hbO=>hb.block b (h1 b hbO).1) g4
 · simp only[Env.app]at hl
   by_cases hm:l∈us.map (·.1)
   · rw[dG _ _ _ hm]at hl
     obtain⟨cells,e1,_⟩:=hr.ob l hm
     rw[e1]at hl;cases hl
   · rw[bZ _ _ _ hm]at hl
     rw[hβ2 l hm];exact h.gone l hl
 · by_cases hlt:b<w.heap.size
   · rw[how3 b hlt]at hb'
     obtain⟨g1,g2⟩:=h.own b hb'
     exact⟨aUN g1 hb.size,by rw[how3 b hlt];exact g2⟩
   · have hmem:b∈B:=by
      rcases aWq (∃ l,l∈us.map (·.1)/\blk l=some (some b))with⟨l,h1,h2⟩ | hh
      · exact hr.inB l h1 b h2
      · rcases aWq (∃ l,l∈us.map (·.1)/\b∈nest l)with⟨l,h1,h2⟩ | hn
        · exact(hr.nd l h1).2 b h2
        · exfalso
          have e:ow' b=ow b:=(how b).2.2 hh hn
          rw[e]at hb'
          exact hlt (h.own b hb').1
     exact⟨hlt' b (hB b hmem).2,.inl (.inl (.inl (aUE h.kept.size (hB b hmem).1)))⟩
 · have hmn:m∉us.map (·.1):=fun e=>by rw[hio m e]at hm;cases hm
   simp only[Env.app]at hs
   rw[bZ _ _ _ hmn]at hs
   rw[hβ2 m hmn];exact h.ios m b hm hs
 · by_cases hm:l∈us.map (·.1)
   · rw[hβ1 l hm]at hl
     exact .inl (aUE h.kept.size (hB b (hr.inB l hm b hl)).1)
   · rw[hβ2 l hm]at hl;exact h.fresh l b hl hi
theorem SimG.growLay (h:SimG Γ ow β F a w){w':World}(hb:Below w.heap.size w w'){us:List (Nat×Option Ob)}{blk:Nat->Option (Option Nat)}{nest:Nat->List Nat}{B:List Nat}(hr:Rows us w'.heap blk nest B)
 (hB:∀ b∈B,w.heap.size<=b/\gA w' b) (hnl:∀ l∈us.map (·.1),NoLab F l) (hio:∀ l∈us.map (·.1),Γ.io l=none) :
 ∃ ow' β',(∀ l∈us.map (·.1),β' l=blk l)/\SimG Γ ow' β' (F.app ⟨[],us⟩) a w':=by
 obtain⟨ow',β',h1,_,h2⟩:=h.growLayX hb hr hB hnl hio
 exact⟨ow',β',h1,h2⟩
def zJ:List PV->Nat->List PV
 | [],_=>[]
 | .rw s n _::r,L=>.ref L s 0 n::zJ r (L+1)
 | p::r,L=>p::zJ r (L+1)
def jA:List PV->Nat->List (Nat×Option Ob)
 | [],_=>[]
 | .rw _ _ cells::r,L=>(L,some ⟨cells,true,false⟩)::jA r (L+1)
 | _::r,L=>jA r (L+1)
theorem aHQ:∀ (vs:List PV) (L:Nat),(zJ vs L).length=vs.length
 | [],_=>rfl
 | p::r,L=>by cases p <;> simp[zJ,aHQ r]
def sK:List PV->Bool
 | []=>true
 | .rw _ _ _::r=>sK r
 | p::r=>flat p&&sK r
theorem aNK {p:PV}(h:flat p=true):p.labs=[]:=by
 have key:∀ cells:List PV,(cells.all fun | .sc _=>true | _=>false)=true->aCT cells=[]:=by
  intro cells
  induction cells with
  | nil=>intro _;rfl
  | cons x r ih =>
   intro hh
   simp only[List.all_cons,aUP]at hh
   cases x with
   | sc v=>simp only[aCT,PV.labs,aUx];exact ih hh.2
   | _=>simp at hh
 cases p with
 | sc v=>rfl
 | agg cells=>simp only[PV.labs];exact key cells h
 | tup vs =>
  simp only[PV.labs]
  simp only[flat]at h
  induction vs with
  | nil=>rfl
  | cons x r ih =>
   simp only[List.all_cons,aUP]at h
   simp only[aCT]
   rw[ih h.2]
   cases x with
   | sc v=>rfl
   | agg cells=>simp only[PV.labs,aVx];exact key cells h.1
   | _=>simp at h
 | _=>simp[flat]at h
theorem aEm:∀ {vs:List PV} {L l:Nat},l∈(jA vs L).map (·.1)->L<=l
 | [],_,_,h=>by simp[jA]at h
 | p::r,L,l,h=>by
  cases p with
  | rw s n cells =>
   simp only[jA,aUH,aUr]at h
   rcases h with rfl | h
   · exact aUI _
   · have:=aEm h;omega
  | _=>simp only[jA]at h;have:=aEm h;omega
theorem aFX {h:Array Obj}{q:Bool}:∀ (vs:List PV) (cs:Array Value) (i:Nat) (B:List Nat) (L:Nat),RelL h q dead vs cs i B->sK vs=true->B.Nodup->
 ∃ blk nest,Rows (jA vs L) h blk nest B/\∀ β',(∀ l∈(jA vs L).map (·.1),β' l=blk l)->RelL h q β' (zJ vs L) cs i []
 | [],cs,i,B,L,_,_,_=>⟨fun _=>none,fun _=>[],⟨by simp[jA],by simp[jA],by simp[jA],by simp[jA],by simp[jA],by simp[jA]⟩,by simp[zJ,RelL]⟩
 | p::r,cs,i,B,L,H,hok,hnd=>by
  simp only[RelL]at H
  obtain⟨c,B1,B2,h1,h2,h3,rfl⟩:=H
  have hnd':=aUQ.1 hnd
  have rest:sK r=true:=by
   cases p with
   | rw s n cells=>exact hok
   | _=>simp only[sK,aUP]at hok;exact hok.2
  obtain⟨blk,nest,hr,hrel⟩:=aFX r cs (i+1) B2 (L+1) h3 rest hnd'.2.1
  have hgt:∀ l,l∈(jA r (L+1)).map (·.1)->l≠L:=fun l hl e=>by have:=aEm hl;omega
  have other:flat p=true->jA (p::r) L=jA r (L+1)->zJ (p::r) L=p::zJ r (L+1)->∃ blk nest,Rows (jA (p::r) L) h blk nest (B1++B2)/\∀ β',(∀ l∈(jA (p::r) L).map (·.1),β' l=blk l)->RelL h q β' (zJ (p::r) L) cs i []:=by
   intro hf e1 e2
   rw[e1,e2]
   refine⟨blk,nest,⟨hr.ob,fun l hl=>⟨(hr.nd l hl).1,fun c hc=>aU8 _ ((hr.nd l hl).2 c hc)⟩,fun l hl b hb=>aU8 _ (hr.inB l hl b hb),hr.bb,hr.bn,hr.nn⟩,fun β' hβ'=>?_⟩
   simp only[RelL]
   have:=aBX hf h2
   subst this
   exact⟨c,[],[],h1,h2.nolab (aNK hf),hrel β' hβ',rfl⟩
  cases p with
  | rw s n cells =>
   simp only[RelV]at h2
   have main:∀ (o:Option Nat) (ns:List Nat),((o=none/\cells=[]/\ns=[]/\n=0/\c=.slice none 0 0)\/∃ b cap cs' t,o=some b/\(c=.slice (some ⟨b,0,none⟩) n cap/\n<=cap/\cap*s<=cs'.size)/\h[b]?=some (.cells cs' t (0,0))/\RelL h true dead cells cs' 0 ns)->
    ns.Nodup->(∀ c∈ns,c∈B1)->(∀ b,o=some b->b∈B1/\b∉ns)->∃ blk nest,Rows (jA (.rw s n cells::r) L) h blk nest (B1++B2)/\∀ β',(∀ l∈(jA (.rw s n cells::r) L).map (·.1),β' l=blk l)->RelL h q β' (zJ (.rw s n cells::r) L) cs i []:=by
    intro o ns hcase hns hsub hob
    have hdis:∀ x,x∈B1->x∉B2:=fun x h1 h2=>hnd'.2.2 x h1 x h2 rfl
    refine⟨fun l=>if l=L then some o else blk l,fun l=>if l=L then ns else nest l,⟨?_,?_,?_,?_,?_,?_⟩,fun β' hβ'=>?_⟩
    · intro l hl
      simp only[jA,aUH,aUr]at hl
      simp only[jA,aT]
      rcases hl with rfl | hl
      · refine⟨cells,by simp,?_⟩
        simp only[aUK]
        rcases hcase with⟨rfl,g1,g2,_⟩ | ⟨b,cap,cs',t,rfl,_,g2,g3⟩
        · exact .inl ⟨rfl,g1,g2⟩
        · exact .inr ⟨b,cs',t,rfl,g2,g3⟩
      · have hne:=hgt l hl
        obtain⟨cl,g1,g2⟩:=hr.ob l hl
        exact⟨cl,by rw[aUq (fun e=>hne e.symm)];exact g1,by simp only[hne,aUT];exact g2⟩
    · intro l hl
      simp only[jA,aUH,aUr]at hl
      rcases hl with rfl | hl
      · simp only[aUK];exact⟨hns,fun c hc=>aVe _ (hsub c hc)⟩
      · simp only[hgt l hl,aUT];exact⟨(hr.nd l hl).1,fun c hc=>aU8 _ ((hr.nd l hl).2 c hc)⟩
    · intro l hl b hb
      simp only[jA,aUH,aUr]at hl
      rcases hl with rfl | hl
      · simp only[aUK]at hb;exact aVe _ (hob b (Option.some.inj hb)).1
      · simp only[hgt l hl,aUT]at hb;exact aU8 _ (hr.inB l hl b hb)
    · intro l hl l' hl' b hb hb'
      simp only[jA,aUH,aUr]at hl hl'
      rcases hl with rfl | hl <;> rcases hl' with rfl | hl'
      · rfl
      · simp only[aUK]at hb;simp only[hgt l' hl',aUT]at hb'
        exact absurd (hr.inB l' hl' b hb') (hdis b (hob b (Option.some.inj hb)).1)
      · simp only[aUK]at hb';simp only[hgt l hl,aUT]at hb
        exact absurd (hr.inB l hl b hb) (hdis b (hob b (Option.some.inj hb')).1)
      · simp only[hgt l hl,aUT]at hb;simp only[hgt l' hl',aUT]at hb'
        exact hr.bb l hl l' hl' b hb hb'
    · intro l hl l' hl' b hb hb'
      simp only[jA,aUH,aUr]at hl hl'
      rcases hl with rfl | hl <;> rcases hl' with rfl | hl'
      · simp only[aUK]at hb hb';exact(hob b (Option.some.inj hb)).2 hb'
      · simp only[aUK]at hb;simp only[hgt l' hl',aUT]at hb'
        exact hdis b (hob b (Option.some.inj hb)).1 ((hr.nd l' hl').2 b hb')
      · simp only[aUK]at hb';simp only[hgt l hl,aUT]at hb
        exact hdis b (hsub b hb') (hr.inB l hl b hb)
      · simp only[hgt l hl,aUT]at hb;simp only[hgt l' hl',aUT]at hb'
        exact hr.bn l hl l' hl' b hb hb'
    · intro l hl l' hl' x hx hx'
      simp only[jA,aUH,aUr]at hl hl'
      rcases hl with rfl | hl <;> rcases hl' with rfl | hl'
      · rfl
      · simp only[aUK]at hx;simp only[hgt l' hl',aUT]at hx'
        exact absurd ((hr.nd l' hl').2 x hx') (hdis x (hsub x hx))
      · simp only[aUK]at hx';simp only[hgt l hl,aUT]at hx
        exact absurd ((hr.nd l hl).2 x hx) (hdis x (hsub x hx'))
      · simp only[hgt l hl,aUT]at hx;simp only[hgt l' hl',aUT]at hx'
        exact hr.nn l hl l' hl' x hx hx'
    · simp only[zJ,RelL]
      have eL:β' L=some o:=by have:=hβ' L (by simp[jA]);simpa using this
      refine⟨c,[],[],h1,?_,hrel β' (fun l hl=>?_),rfl⟩
      · simp only[RelV]
        rcases hcase with⟨rfl,g1,g2,g3,g4⟩ | ⟨b,cap,cs',t,rfl,⟨g1,g2,g3⟩,g4,_⟩
        · refine⟨?_,fun _=>⟨g3,?_,g4⟩,fun b e=>by rw[eL]at e;cases e⟩ <;> trivial
        · refine⟨by trivial,(fun e=>by rw[eL]at e;cases e),fun b' e=>?_⟩
          rw[eL]at e;cases e
          exact⟨cap,cs',t,by simpa using g1,g4,by simpa using g3,g2⟩
      · have:=hβ' l (by simp only[jA,aUH,aUr];exact .inr hl)
        rw[this];simp only[hgt l hl,aUT]
   rcases h2 with⟨e1,e2,e3,e4⟩ | ⟨b,cap,cs',t,O',e1,e2,e3,rfl⟩
   · exact main none [] (.inl ⟨rfl,e2,rfl,e1,e4⟩) (by simp) (by simp) (by simp)
   · have hb1:=aUL.1 hnd'.1
     exact main (some b) O' (.inr ⟨b,cap,cs',t,rfl,e1,e2,e3⟩) hb1.2 (fun c hc=>by simp[hc]) (fun b' e=>by cases e;exact⟨by simp,hb1.1⟩)
  | sc v=>exact other (by simp only[sK,aUP]at hok;exact hok.1) rfl rfl
  | sl n cells=>simp[sK,flat]at hok
  | ref l s off n=>simp[sK,flat]at hok
  | ptr l k=>simp[sK,flat]at hok
  | iptr cells=>simp[sK,flat]at hok
  | agg cells=>exact other (by simp only[sK,aUP]at hok;exact hok.1) rfl rfl
  | tup vs=>exact other (by simp only[sK,aUP]at hok;exact hok.1) rfl rfl
  | any=>simp[sK,flat]at hok
  | was v p=>simp[sK,flat]at hok
variable {d:Nat}{ty:TypeId}{pos:String}{af:Array Edge}{g:Option (Nat×Bool)}
def aKf:List (Nat×Option Ob)->List Nat
 | []=>[]
 | (l,_)::r=>l::aKf r
theorem aKe:∀ (us:List (Nat×Option Ob)),aKf us=us.map (·.1)
 | []=>rfl
 | (l,o)::r=>by simp[aKf,aKe r]
def aLB (Γ:Ctx P N):List Nat->Prop
 | []=>True
 | l::r=>Γ.io l=none/\aLB Γ r
theorem aEZ:∀ {ls:List Nat},aLB Γ ls->∀ l∈ls,Γ.io l=none
 | [],_,_,h=>by cases h
 | x::r,h,l,hl=>by
  rcases aUr.1 hl with rfl | hl
  · exact h.1
  · exact aEZ h.2 l hl
theorem aJv {f:FuncId}[hfc:FnC P f]{xs:List Operand}{us:Array TypeId}{ps:List PV}{ls:List Nat}{vs vs':List PV}{os:List (Nat×Option Ob)}(L:Nat)(ha:ArgsV S O xs ps ls)(hm:Meets P f ps (.tup vs) true)(hok:sK vs=true)
 (hv:zJ vs L=vs') (ho:jA vs L=os) (hio:aLB Γ (aKf os)) (hd:Nat.blt d N=true) :
 Local Γ ⟨some d,.call ⟨.value (.func f),xs.toArray,us⟩,ty,pos,af,g⟩ ⟨S,O⟩ ⟨[(d,⟨.tup vs',false⟩)],os⟩ (pD xs) ls (aKf os):=by
 intro F hs hl hnd a w ⟨ow,β,hsim⟩ Q
 subst hv;subst ho
 have hdN:=(aR _ _).1 hd
 have hargs:=zA hsim ha hs hl
 unfold Oper.wp
 have hrun:(execOp a.eval ⟨some d,.call ⟨.value (.func f),xs.toArray,us⟩,ty,pos,af,g⟩).run P w=.ok (.enter f (xs.map a.eval).toArray) w:=by
  simp[execOp,resolve,Act.eval,Deferred.ofValue,invoke,hfc.run]
 rw[hrun]
 show Calls _ _ _ _ _
 refine(hm w (xs.map a.eval).toArray (fun b=>Im Γ ow w b\/∃ l∈ls,ow b=.lab l) (by simpa using hargs)).mono fun e w' ⟨c,B,he,hb,h1,h2,h3⟩=>?_
 subst he
 show Sim Γ _ _ _
 obtain⟨n1,n2⟩:=h3 rfl
 simp only[RelV]at h1
 obtain⟨cs,rfl,q2,q3⟩:=h1
 obtain⟨blk,nest,hr,hrel⟩:=aFX vs cs 0 B L q3 hok n1
 rw[aKe]at hnd hio
 obtain⟨ow',β',hβ,h'⟩:=hsim.growLay hb hr n2 hnd (aEZ hio)
 have h2:=h'.put (d:=d) (v:=.tup (zJ vs L)) (c:=.tuple cs) (O:=[]) hdN (by
  simp only[RelV]
  refine⟨cs,rfl,?_,hrel β' hβ⟩
  rw[q2,aHQ]) (by simp)
 exact⟨_,_,h2.congr (fun k=>rfl) (fun l=>rfl)⟩
theorem aRi {f:FuncId}[hfc:FnC P f]{xs:List Operand}{us:Array TypeId}{ps:List PV}{ls:List Nat}{s n:Nat}{cells:List PV}(ha:ArgsV S O xs ps ls)(hm:Meets P f ps (.rw s n cells) true)(hio:Γ.io d=none)(hd:Nat.blt d N=true) :
 Local Γ ⟨some d,.call ⟨.value (.func f),xs.toArray,us⟩,ty,pos,af,g⟩ ⟨S,O⟩ ⟨[(d,⟨.ref d s 0 n,false⟩)],[(d,some ⟨cells,true,false⟩)]⟩ (pD xs) ls [d]:=by
 intro F hs hl hnd a w ⟨ow,β,hsim⟩ Q
 have hdN:=(aR _ _).1 hd
 have hargs:=zA hsim ha hs hl
 unfold Oper.wp
 have hrun:(execOp a.eval ⟨some d,.call ⟨.value (.func f),xs.toArray,us⟩,ty,pos,af,g⟩).run P w=.ok (.enter f (xs.map a.eval).toArray) w:=by
  simp[execOp,resolve,Act.eval,Deferred.ofValue,invoke,hfc.run]
 rw[hrun]
 show Calls _ _ _ _ _
 refine(hm w (xs.map a.eval).toArray (fun b=>Im Γ ow w b\/∃ l∈ls,ow b=.lab l) (by simpa using hargs)).mono fun e w' ⟨c,B,he,hb,h1,h2,h3⟩=>?_
 subst he
 show Sim Γ _ _ _
 obtain⟨n1,n2⟩:=h3 rfl
 have q3:RelL w'.heap false dead [.rw s n cells] #[c] 0 B:=by
  simp only[RelL]
  exact⟨c,B,[],⟨by simp,by simp⟩,h1,rfl,by simp⟩
 obtain⟨blk,nest,hr,hrel⟩:=aFX [.rw s n cells] #[c] 0 B d q3 rfl n1
 obtain⟨ow',β',hβ,h'⟩:=hsim.growLay hb hr n2 (by simpa [jA]using hnd d (by simp)) (by simpa [jA]using hio)
 have h4:=hrel β' hβ
 simp only[zJ,RelL]at h4
 obtain⟨c',B1,B2,g1,g2,_,g4⟩:=h4
 simp at g1;subst g1
 obtain⟨rfl,_⟩:=List.append_eq_nil_iff.1 g4.symm
 have h2:=h'.put (d:=d) (v:=.ref d s 0 n) (c:=c) (O:=[]) hdN g2 (by simp)
 exact⟨_,_,h2.congr (fun k=>rfl) (fun l=>rfl)⟩
theorem aSZ {x:Operand}{vs:List PV}{i:Nat}{p:PV}(hx:evq S x=some (.tup vs))(hp:vs[i]?=some p)(hd:Nat.blt d N=true) :
 Local Γ ⟨some d,.extract x i,ty,pos,af,g⟩ ⟨S,O⟩ ⟨[(d,⟨p,false⟩)],[]⟩ (ors x) [] []:=by
 intro F hs _ _
 refine bE fun a w ⟨ow,β,hsim⟩=>?_
 obtain⟨B,h1,h2⟩:=cK hsim hx hs
 simp only[RelV]at h1
 obtain⟨cs,e1,e2,e3⟩:=h1
 obtain⟨c,B1,g1,_,g3,g4⟩:=e3.get _ _ _ _ i p hp
 rw[aUR]at g1
 exact⟨c,w,by simp[execOp,e1,Instr.extract,g1],ow,β,hsim.put ((aR _ _).1 hd) g3 (fun b hb=>h2 b (g4 b hb))⟩
theorem Res1.refW {t l s n:Nat}{cells:List PV}{dp dp0:Bool}(h:lkq S t=some ⟨.ref l s 0 n,dp0⟩)(ho:loq O l=some ⟨cells,dp,false⟩)(hio:Γ.io l=none):Res1 Γ ⟨S,O⟩ (.tmp t) (.rw s n cells) (if dp then .obj l else .none):=by
 intro ow β a w hs
 obtain⟨B,h1,_⟩:=hs.slots t
 rw[gH h]at h1
 simp only[RelV]at h1
 obtain⟨Bo,o1,o2,hob⟩:=hs.objs l ⟨cells,dp,false⟩ (by rw[<- dA];exact ho)
 rcases hob with⟨p1,p2,p3⟩ | ⟨b,cs,u,p1,p2,p3,p4⟩
 · obtain⟨rfl,_,e⟩:=h1.2.1 p1
   simp only at p2;subst p2
   exact⟨_,[],rfl,by simp only[RelV];exact .inl ⟨trivial,trivial,trivial,e⟩,by simp,by simp⟩
 · obtain⟨cap,cs',u',q1,q0,q3,q4⟩:=h1.2.2 b p1
   rw[p3]at q0;cases q0
   simp only[aWI,aUR]at q1 q3
   refine⟨_,b::Bo,rfl,by simp only[RelV];exact .inr ⟨b,cap,cs,u,Bo,⟨q1,q4,q3⟩,p3,by simpa using p4,rfl⟩,fun c hc=>?_,fun hne=>?_⟩
   · rcases aUr.1 hc with rfl | hc
     · exact⟨hs.block_lt p1,.inr (.inl (hs.fresh l _ p1 hio))⟩
     · exact⟨(o1 c hc).1,(o1 c hc).2.1⟩
   · cases dp with
     | false=>simp at hne
     | true =>
      obtain⟨n1,n2⟩:=o2 rfl
      refine⟨aUL.2 ⟨fun hb=>(o1 b hb).2.2 l p2,n1⟩,fun c hc=>?_⟩
      rcases aUr.1 hc with rfl | hc
      · exact⟨⟨_,_,p3⟩,.inl (hs.fresh l _ p1 hio),.inr ⟨l,p2,rfl⟩⟩
      · have e:=n2 c hc
        refine⟨e.2,?_,.inl (by simpa [ResO.own]using e.1)⟩
        rcases(hs.own c (by rw[e.1];simp)).2 with g | ⟨l',g,_⟩
        · exact g
        · rw[e.1]at g;cases g
theorem RetIs.rW {t l s n:Nat}{cells:List PV}{dp dp0 deep:Bool}(h:lkq S t=some ⟨.ref l s 0 n,dp0⟩)(ho:loq O l=some ⟨cells,dp,false⟩)(hd:dp=true)(hio:Γ.io l=none):RetIs Γ #[.tmp t] ⟨S,O⟩ (.rw s n cells) deep:=by
 subst hd;exact aXQ (Res1.refW h ho hio) (fun _=>by simp)
theorem Res1.nilW {t s:Nat}{dp:Bool}(h:lkq S t=some ⟨.sc (.slice none 0 0),dp⟩):Res1 Γ ⟨S,O⟩ (.tmp t) (.rw s 0 []) (.slot t):=by
 intro ow β a w hs
 obtain⟨B,h1,_,_⟩:=hs.slots t
 rw[gH h]at h1
 simp only[RelV]at h1
 exact⟨_,[],rfl,by simp only[RelV];exact .inl ⟨trivial,trivial,trivial,h1.1⟩,by simp,by simp⟩
theorem RelV.soft {h:Array Obj}{β:Nat->Option (Option Nat)}{s n:Nat}{cells:List PV}{c:Value}{B:List Nat}(H:RelV h β (.rw s n cells) c B):RelV h β (.sl n cells) c B:=by
 simp only[RelV]at H ⊢
 rcases H with⟨h1,h2,h3,h4⟩ | ⟨b,cap,cs,t,O',⟨h1,h2,_⟩,h3,h4,h5⟩
 · exact .inl ⟨h1,h2,h3,none,0,h4⟩
 · exact .inr ⟨b,0,cap,cs,t,(0,0),O',⟨h1,h2⟩,h3,h4,h5⟩
theorem Meets.soft {f:FuncId}{args:List PV}{s n:Nat}{cells:List PV}{deep:Bool}(h:Meets P f args (.rw s n cells) deep):Meets P f args (.sl n cells) deep :=
 fun w cargs ok ha=>(h w cargs ok ha).mono fun _ _ ⟨c,B,h1,h2,h3,h4⟩=>⟨c,B,h1,h2,h3.soft,h4⟩
theorem RetX.mk {rs:Array ResultVar}{r:PV}{deep:Bool}{objs:List XO}{E:Env}(h:RetIs Γ rs E r deep)(ho:∀ o∈objs,∃ dp,lo E.o o.l=some ⟨o.new,dp,false⟩):RetX Γ rs E r deep objs:=⟨h,fun _ _ hs=>⟨E,hs,ho⟩⟩
theorem RetX.weak {E E0:Env}{rs:Array ResultVar}{r:PV}{deep:Bool}{objs:List XO}(he:Ent Γ E E0)(h:RetX Γ rs E0 r deep objs):RetX Γ rs E r deep objs:=⟨aXh he h.1,fun a w hs=>h.2 a w (he a w hs)⟩
end
section
variable {P:Program}{N:Nat}{Γ:Ctx P N}{E:Env}{Q:Exit->Env->Prop}
def XRetX (Γ:Ctx P N)(rs:Array ResultVar)(r:PV)(deep:Bool)(objs:List XO)(e:Exit)(E:Env):Prop:=e=.ret/\RetX Γ rs E r deep objs
theorem XRetX.mk {rs:Array ResultVar}{r:PV}{deep:Bool}{objs:List XO}(h:RetX Γ rs E r deep objs):XRetX Γ rs r deep objs .ret E:=⟨rfl,h⟩
theorem XRetX.out {rs:Array ResultVar}{r:PV}{deep:Bool}{objs:List XO}{e:Exit}(h:XRetX Γ rs r deep objs e E):e=.ret/\RetX Γ rs E r deep objs:=h
theorem z12 {rs:Array ResultVar}{r:PV}{deep:Bool}{objs:List XO}(h:RetX Γ rs E r deep objs):aCV Γ rs r deep objs .ret E:=h
theorem xo1 {p:XO->Prop}{x:XO}(h:p x):∀ o∈[x],p o:=by intro o ho;rw[aU2]at ho;subst ho;exact h
theorem aQB {α:Type}{enc:α->List PV}{a r:List α}{l sz:Nat}(hl:r.length=a.length)(h:∀ y,(enc y).length=sz)(h0:0<sz):(XO.mk l (a.flatMap enc) (r.flatMap enc)).old=[]->(XO.mk l (a.flatMap enc) (r.flatMap enc)).new=[]:=by
 intro e
 have:a.flatMap enc=[]:=e
 have:=congrArg List.length this
 rw[cR h,aVu]at this
 have ha:a.length=0:=by
  rcases Nat.mul_eq_zero.1 this with h | h
  · exact h
  · omega
 have hr:r=[]:=aUD.1 (hl.trans ha)
 show r.flatMap enc=[]
 rw[hr];rfl
variable {S:List (Nat×Slot)}{O:List (Nat×Option Ob)}{d:Nat}{ty:TypeId}{pos:String}{af:Array Edge}{g:Option (Nat×Bool)}
def aEl:List PV->Option (List Value)
 | []=>some []
 | .sc v::r=>match aEl r with
  | some vs=>some (v::vs)
  | none=>none
 | _::_=>none
def aF6:PV->Option Value
 | .sc v=>some v
 | .agg cells=>match aEl cells with
  | some vs=>some (.agg vs.toArray)
  | none=>none
 | _=>none
def aJT (S:List (Nat×Slot)):List (Nat×Operand)->Option (List (Nat×Value))
 | []=>some []
 | (i,x)::r=>match evq S x with
  | some p=>match aF6 p,aJT S r with
   | some v,some vs=>some ((i,v)::vs)
   | _,_=>none
  | none=>none
theorem aFR {h:Array Obj}{β:Nat->Option (Option Nat)}:∀ {ps:List PV} {vs:List Value} {cs:Array Value} {i:Nat} {B:List Nat},aEl ps=some vs->RelL h true β ps cs i B->vs.length=ps.length/\∀ k v,vs[k]?=some v->cs[i+k]?=some v
 | [],vs,cs,i,B,h1,H=>by simp only[aEl]at h1;cases h1;simp
 | p::ps,vs,cs,i,B,h1,H=>by
  cases p with
  | sc v =>
   simp only[aEl]at h1
   split at h1
   · rename_i vs' hv;cases h1
     simp only[RelL]at H
     obtain⟨c,B1,B2,g1,g2,g3,_⟩:=H
     simp only[RelV]at g2
     obtain⟨k1,k2⟩:=aFR hv g3
     refine⟨by simp[k1],fun k u hu=>?_⟩
     cases k with
     | zero=>simp at hu;subst hu;rw[<- g2.1];simpa using g1.1
     | succ k=>simp at hu;have:=k2 k u hu;rw[show i+(k+1)=i+1+k by omega];exact this
   · cases h1
  | _=>simp[aEl]at h1
theorem aLg {h:Array Obj}{β:Nat->Option (Option Nat)}{p:PV}{v c:Value}{B:List Nat}(hp:aF6 p=some v)(H:RelV h β p c B):c=v:=by
 cases p with
 | sc u=>simp only[aF6]at hp;cases hp;simp only[RelV]at H;exact H.1
 | agg cells =>
  simp only[aF6]at hp
  split at hp
  · rename_i vs hv;cases hp
    simp only[RelV]at H
    obtain⟨cs,rfl,h2,h3⟩:=H
    obtain⟨k1,k2⟩:=aFR hv h3
    congr 1
    apply Array.ext_getElem?
    intro k
    by_cases hk:k<vs.length
    · have:=k2 k vs[k] (by simp)
      rw[aUR]at this
      rw[this];simp[hk]
    · rw[aVd (by omega),aVd (by simp;omega)]
  · cases hp
 | _=>simp[aF6]at hp
theorem aJS {F:Env}{a:Act}{w:World}(h:Sim Γ F a w):∀ {ps:List (Nat×Operand)} {vs:List (Nat×Value)},aJT S ps=some vs->(∀ j∈aAV ps,lk F.s j=lk S j)->ps.map (fun p=>(p.1,a.eval p.2))=vs
 | [],vs,hv,_=>by simp only[aJT]at hv;cases hv;rfl
 | (i,x)::r,vs,hv,hs=>by
  simp only[aJT]at hv
  split at hv
  · rename_i p hx
    split at hv
    · rename_i v vs' h1 h2;cases hv
      obtain⟨ow,β,hsim⟩:=h
      obtain⟨B,g1,_⟩:=cK hsim hx (fun j hj=>hs j (by simp[aAV,hj]))
      rw[aUH,aLg h1 g1,aJS ⟨ow,β,hsim⟩ h2 (fun j hj=>hs j (by simp[aAV,hj]))]
    · cases hv
  · cases hv
theorem oR {t:Nat}{ps:Array (Nat×Operand)}{vals:List (Nat×Value)}{cs:List Value}{cells:List PV}(hv:aJT S ps.toList=some vals)(hb:P.built t vals=some cs.toArray)(h1:cs.all (·.oneCell')=true)(hc:cs.map .sc=cells)(hd:Nat.blt d N=true) :
 Local Γ ⟨some d,.build t ps,ty,pos,af,g⟩ ⟨S,O⟩ ⟨[(d,⟨.agg cells,true⟩)],[]⟩ (aAV ps.toList) [] []:=by
 intro F hs _ _
 refine bE fun a w hsim=>?_
 have hev:=aJS hsim hv hs
 obtain⟨ow,β,hsim⟩:=hsim
 refine⟨.agg cs.toArray,w,?_,ow,β,?_⟩
 · simp only[execOp]
   rw[Sem.run_bind,run_build w t _ cs.toArray (by rw[<- hb,<- hev];simp)]
   rfl
 · subst hc
   have hrel:RelV w.heap β (.agg (cs.map .sc)) (.agg cs.toArray) []:=by
    simp only[RelV]
    refine⟨cs.toArray,rfl,by simp,?_⟩
    have:=aDu (h:=w.heap) (β:=β) (vs:=cs) (pre:=[]) (fun v hv=>List.all_eq_true.1 h1 v hv)
    simpa using this
   obtain h':=hsim.putDeep (d:=d) ((aR _ _).1 hd) hrel (by simp) (by simp) (by simp) (by simp)
   exact h'
end
def aXL:=@RetX.mk
def aXN:=@RetX.weak
/- The engine, part Y: rows within rows: an own row taken out of another and put back; rows with rows within, handed over. -/
open Go.RowKit (Below)
section
variable {P:Program}{N:Nat}{Γ:Ctx P N}{S:List (Nat×Slot)}{O:List (Nat×Option Ob)}{ow:Nat->Own}{β:Nat->Option (Option Nat)}{F:Env}{a:Act}{w:World}
theorem RelL.at {h:Array Obj}{β:Nat->Option (Option Nat)}{cells:List PV}{cs:Array Value}{O:List Nat}{c:Nat}{p:PV}(H:RelL h true β cells cs 0 O)(hc:cells[c]?=some p) :
 ∃ v O1 Oc O2,cs[c]?=some v/\v.oneCell'=true/\RelV h β p v Oc/\RelL h true β (cells.take c) cs 0 O1/\RelL h true β (cells.drop (c+1)) cs (c+1) O2/\O=O1++(Oc++O2):=by
 have hlt:c<cells.length:=(aVf.1 hc).1
 have e:cells=cells.take c++p::cells.drop (c+1):=by
  rw[<- (aVf.1 hc).2,List.getElem_cons_drop,aVs]
 rw[e]at H
 obtain⟨O1,O3,h1,h2,rfl⟩:=(aXE _ _ _ _ _).1 H
 simp only[RelL]at h2
 obtain⟨v,Oc,O2,g1,g2,g3,rfl⟩:=h2
 have hl:(cells.take c).length=c:=by rw[aVp];omega
 rw[hl,aUR]at g1 g3
 exact⟨v,O1,Oc,O2,g1.1,by simpa using g1.2,g2,h1,g3,rfl⟩
theorem RelL.put {h:Array Obj}{β:Nat->Option (Option Nat)}{cells:List PV}{cs:Array Value}{c:Nat}{p q:PV}{v:Value}{O1 Oc O2:List Nat}(hc:cells[c]?=some p)(hv:cs[c]?=some v)(h1c:v.oneCell'=true)(hq:RelV h β q v Oc)
 (h1:RelL h true β (cells.take c) cs 0 O1) (h2:RelL h true β (cells.drop (c+1)) cs (c+1) O2):RelL h true β (cells.set c q) cs 0 (O1++(Oc++O2)):=by
 have hlt:c<cells.length:=(aVf.1 hc).1
 have hl:(cells.take c).length=c:=by rw[aVp];omega
 rw[List.set_eq_take_append_cons_drop,aUs hlt]
 refine(aXE _ _ _ _ _).2 ⟨O1,Oc++O2,h1,?_,rfl⟩
 simp only[RelL]
 rw[hl,aUR]
 exact⟨v,Oc,O2,⟨hv,fun _=>h1c⟩,hq,h2,rfl⟩
end
/- The engine, part Z: an own row put back into another; calls that write rows with rows within. -/
open Go.RowKit (Below)
section
variable {P:Program}{N:Nat}{Γ:Ctx P N}{S:List (Nat×Slot)}{O:List (Nat×Option Ob)}{ow:Nat->Own}{β:Nat->Option (Option Nat)}{F:Env}{a:Act}{w:World}
theorem Ent.pack (l L c:Nat){s n:Nat}{cells cs':List PV}(ho:loq O l=some ⟨cells,true,true⟩)(hL:loq O L=some ⟨cs',true,false⟩)(hc:cells[c]?=some (.ref L s 0 n))(hne:Nat.beq l L=false)(hio:Γ.io L=none) :
 Ent Γ ⟨S,O⟩ ⟨S,(L,none)::(l,some ⟨cells.set c (.rw s n cs'),true,true⟩)::O⟩:=by
 classical
 rintro a w ⟨ow,β,h⟩
 have hne:l≠L:=by rintro rfl;simp at hne
 have ho':lo (Env.mk S O).o l=some ⟨cells,true,true⟩:=by rw[<- dA];exact ho
 have hL':lo (Env.mk S O).o L=some ⟨cs',true,false⟩:=by rw[<- dA];exact hL
 obtain⟨Ol,o1,o2,o3⟩:=h.objs l _ ho'
 obtain⟨nd,o2⟩:=o2 rfl
 obtain⟨OL,u1,u2,u3⟩:=h.objs L _ hL'
 obtain⟨ndL,u2⟩:=u2 rfl
 rcases o3 with⟨_,e,_⟩ | ⟨b0,cs,t,p1,p2,p3,p4⟩
 · simp only at e;subst e;simp at hc
 simp only[aUK]at p4
 obtain⟨v,O1,Oc,O2,q1,q2,q3,q4,q5,rfl⟩:=p4.at hc
 simp only[RelV]at q3
 obtain⟨rfl,q3n,q3s⟩:=q3
 simp only[aUx]at nd o1 o2 p4
 have hrow:∃ (o:Option Nat),β L=some o/\RelV w.heap dead (.rw s n cs') v (o.toList++OL)/\∀ b,o=some b->ow b=.lab L/\gA w b:=by
  rcases u3 with⟨e1,e2,e3⟩ | ⟨b,cs2,t2,e1,e2,e3,e4⟩
  · refine⟨none,e1,?_,by simp⟩
    obtain⟨g1,g2,g3⟩:=q3n e1
    simp only at e2;subst e2;subst e3
    simp only[RelV]
    exact .inl ⟨g1,trivial,by simp,g3⟩
  · refine⟨some b,e1,?_,fun b' e=>by cases e;exact⟨e2,_,_,e3⟩⟩
    obtain⟨cap,cs3,t3,g1,g2,g3,g4⟩:=q3s b e1
    rw[e3]at g2;cases g2
    simp only[RelV]
    exact .inr ⟨b,cap,cs2,t2,OL,⟨by simpa using g1,g4,by simpa using g3⟩,e3,by simpa using e4,by simp⟩
 obtain⟨o,hβo,hrel,hob⟩:=hrow
 let ow':Nat->Own:=fun b=>if o=some b\/b∈OL then .obj l else ow b
 let β':Nat->Option (Option Nat):=fun m=>if m=L then none else β m
 have hβ':∀ m,m≠L->β' m=β m:=fun m hm=>by show(if _ then _ else _)=_;rw[aUq hm]
 have hβ'L:β' L=none:=by show(if _ then _ else _)=_;rw[aUs rfl]
 have hmine:∀ b,(o=some b\/b∈OL)->ow b=.lab L\/ow b=.obj L:=fun b hb=>hb.elim (fun e=>.inl (hob b e).1) (fun e=>.inr (u2 b e).1)
 have how1:∀ b,(o=some b\/b∈OL)->ow' b=.obj l:=fun b hb=>by show(if _ then _ else _)=_;rw[aUs hb]
 have how2:∀ b,ow b≠.lab L->ow b≠.obj L->ow' b=ow b:=by
  intro b h1 h2
  show(if _ then _ else _)=_
  rw[aUq (fun hb=>(hmine b hb).elim h1 h2)]
 have hnolab:∀ b m,ow b≠.lab m->ow' b≠.lab m:=by
  intro b m hb
  show(if _ then _ else _)≠_
  split
  · simp
  · exact hb
 have hIm:∀ b,Im Γ ow w b->Im Γ ow' w b:=fun b ⟨h1,h2,h3⟩=>⟨h1,h2,fun m=>hnolab b m (h3 m)⟩
 have hkeep:∀ m,KeepB w.heap w.heap β β' m:=by
  intro m ob e
  by_cases hm:m=L
  · rw[hm,hβ'L]at e;cases e
  · exact⟨by rw[hβ' m hm]at e;exact e,fun b _ c t hc=>⟨c,hc,rfl⟩⟩
 have hin:∀ b,(o=some b\/b∈OL)->b<w.heap.size/\Γ.nw b/\gA w b:=by
  intro b hb
  have e:=hmine b hb
  obtain⟨g1,g2⟩:=h.own b (by rcases e with e | e <;> rw[e] <;> simp)
  refine⟨g1,?_,hb.elim (fun e=>(hob b e).2) (fun e=>(u2 b e).2)⟩
  rcases g2 with g | ⟨m,g,g'⟩
  · exact g
  · rcases e with e | e <;> rw[e]at g <;> cases g
    rw[hio]at g';cases g'
 have hO:∀ b,b∈O1++O2->ow b=.obj l:=fun b hb=>(o2 b hb).1
 refine⟨ow',β',{ size:=h.size,defers:=h.defers,kept:=h.kept,slots:=fun k=>?_,objs:=fun m ob hm=>?_,gone:=fun m hm=>?_,own:=fun b hb=>?_,ios:=fun m b hm hs=>?_,fresh:=fun m b hm hiom=>?_ }⟩
 · obtain⟨B,g1,g2,g3⟩:=h.slots k
   refine⟨B,aXt _ _ _ (fun m _=>hkeep m) (fun _ _=>rfl) g1,fun b hb=>hIm b (g2 b hb),fun hd=>⟨(g3 hd).1,fun b hb=>⟨?_,((g3 hd).2 b hb).2⟩⟩⟩
   have e:=((g3 hd).2 b hb).1
   rw[how2 b (by rw[e];simp) (by rw[e];simp)];exact e
 · simp only[aT]at hm
   by_cases hmL:L=m
   · rw[aUs hmL]at hm;cases hm
   · rw[aUq hmL]at hm
     by_cases hml:l=m
     · subst hml
       rw[aUs rfl]at hm;cases hm
       have hdis:∀ b,b∈o.toList++OL->o=some b\/b∈OL:=by
        intro b hb
        rcases aUz.1 hb with hb | hb
        · left;simpa using hb
        · exact .inr hb
       have hno:∀ b,b∈O1++O2->b∉o.toList++OL:=by
        intro b hb hb'
        rcases hmine b (hdis b hb')with e | e <;> rw[hO b hb]at e
        · cases e
        · injection e with e';exact hne e'
       have ndO:(o.toList++OL).Nodup:=by
        refine aUQ.2 ⟨by cases o <;> simp,ndL,fun x hx y hy e=>?_⟩
        subst e
        have e1:=(hob x (by simpa using hx)).1
        rw[(u2 x hy).1]at e1;cases e1
       have nd1:=aUQ.1 nd
       refine⟨O1++((o.toList++OL)++O2),fun b hb=>?_,fun _=>⟨?_,fun b hb=>?_⟩,.inr ⟨b0,cs,t,by rw[hβ' l hne];exact p1,?_,p3,?_⟩⟩
       · by_cases hb':b∈o.toList++OL
         · obtain⟨g1,g2,_⟩:=hin b (hdis b hb')
           exact⟨g1,.inr g2,fun m=>by rw[how1 b (hdis b hb')];simp⟩
         · exact hIm b (o1 b (by simp only[aUz]at hb hb' ⊢;rcases hb with hb | hb | hb;exact .inl hb;exact absurd hb hb';exact .inr hb))
       · refine aUQ.2 ⟨nd1.1,aUQ.2 ⟨ndO,nd1.2.1,fun x hx y hy e=>hno y (by simp[hy]) (e▸hx)⟩,fun x hx y hy=>?_⟩
         rcases aUz.1 hy with hy | hy
         · intro e;exact hno x (by simp[hx]) (e▸hy)
         · exact nd1.2.2 x hx y hy
       · by_cases hb':b∈o.toList++OL
         · exact⟨how1 b (hdis b hb'),(hin b (hdis b hb')).2.2⟩
         · have hb2:b∈O1++O2:=by simp only[aUz]at hb hb' ⊢;rcases hb with hb | hb | hb;exact .inl hb;exact absurd hb hb';exact .inr hb
           have e:=hO b hb2
           refine⟨?_,(o2 b hb2).2⟩
           show(if _ then _ else _)=_
           rw[aUq (fun hh=>hb' (by rcases hh with hh | hh;(subst hh;simp);simp[hh])),e]
       · rw[how2 b0 (by rw[p2];intro e;injection e with e';exact hne e') (by rw[p2];simp)];exact p2
       · simp only[aUK]
         refine RelL.put (q:=.rw s n cs') (Oc:=o.toList++OL) hc q1 q2 ?_ (aXr _ _ _ _ (fun _ _ m' _=>hkeep m') (fun _ _=>rfl) q4) (aXr _ _ _ _ (fun _ _ m' _=>hkeep m') (fun _ _=>rfl) q5)
         exact aXt _ _ _ (fun l' hl'=>by simp[PV.labs]at hl') (fun _ _=>rfl) hrel
     · rw[aUq hml]at hm
       obtain⟨B,g1,g2,g3⟩:=h.objs m ob hm
       refine⟨B,fun b hb=>hIm b (g1 b hb),fun hd=>⟨(g2 hd).1,fun b hb=>⟨?_,((g2 hd).2 b hb).2⟩⟩,?_⟩
       · have e:=((g2 hd).2 b hb).1
         rw[how2 b (by rw[e];simp) (by rw[e];intro e';injection e' with e'';exact hmL e''.symm)];exact e
       · rcases g3 with⟨e1,e2,e3⟩ | ⟨b,c1,t1,e1,e2,e3,e4⟩
         · exact .inl ⟨by rw[hβ' m (fun e=>hmL e.symm)];exact e1,e2,e3⟩
         · refine .inr ⟨b,c1,t1,by rw[hβ' m (fun e=>hmL e.symm)];exact e1,?_,e3,?_⟩
           · rw[how2 b (by rw[e2];intro e';injection e' with e'';exact hmL e''.symm) (by rw[e2];simp)];exact e2
           · cases hbb:ob.box with
             | false=>rw[hbb]at e4;exact e4
             | true=>rw[hbb]at e4;exact aXr _ _ _ _ (fun _ _ m' _=>hkeep m') (fun _ _=>rfl) e4
 · simp only[aT]at hm
   by_cases hmL:L=m
   · rw[<- hmL];exact hβ'L
   · rw[aUq hmL]at hm
     by_cases hml:l=m
     · rw[aUs hml]at hm;cases hm
     · rw[aUq hml]at hm;rw[hβ' m (fun e=>hmL e.symm)];exact h.gone m hm
 · rcases aWq (o=some b\/b∈OL)with hb' | hb'
   · exact⟨(hin b hb').1,.inl (hin b hb').2.1⟩
   · have e:ow' b=ow b:=by show(if _ then _ else _)=_;rw[aUq hb']
     rw[e]at hb
     obtain⟨g1,g2⟩:=h.own b hb
     exact⟨g1,by rw[e];exact g2⟩
 · have hmL:m≠L:=fun e=>by rw[e,hio]at hm;cases hm
   rw[hβ' m hmL]
   refine h.ios m b hm ?_
   simp only[aT]at hs
   rw[aUq (fun e=>hmL e.symm)]at hs
   by_cases hml:l=m
   · subst hml;rw[ho'];rfl
   · rw[aUq hml]at hs;exact hs
 · by_cases hmL:m=L
   · subst hmL;rw[hβ'L]at hm;cases hm
   · rw[hβ' m hmL]at hm;exact h.fresh m b hm hiom
theorem Ent.unbox (l:Nat){cells:List PV}{dp:Bool}(ho:loq O l=some ⟨cells,dp,true⟩)(hn:qB cells=true):Ent Γ ⟨S,O⟩ ⟨S,(l,some ⟨cells,dp,false⟩)::O⟩:=by
 rintro a w ⟨ow,β,h⟩
 have ho':lo (Env.mk S O).o l=some ⟨cells,dp,true⟩:=by rw[<- dA];exact ho
 refine⟨ow,β,{ size:=h.size,defers:=h.defers,kept:=h.kept,slots:=h.slots,objs:=fun m ob hm=>?_,gone:=fun m hm=>?_,own:=h.own,ios:=fun m b hm hs=>?_,fresh:=h.fresh }⟩
 · simp only[aT]at hm
   by_cases hml:l=m
   · subst hml
     rw[aUs rfl]at hm;cases hm
     obtain⟨B,o1,o2,o3⟩:=h.objs l _ ho'
     refine⟨B,o1,o2,o3.imp (fun⟨e1,e2,e3⟩=>⟨e1,e2,e3⟩) fun⟨b,cs,t,e1,e2,e3,e4⟩=>⟨b,cs,t,e1,e2,e3,?_⟩⟩
     simp only[aUK]at e4
     simp only[aUv,aUT]
     exact yF (qA hn) e4
   · rw[aUq hml]at hm;exact h.objs m ob hm
 · simp only[aT]at hm
   by_cases hml:l=m
   · rw[aUs hml]at hm;cases hm
   · rw[aUq hml]at hm;exact h.gone m hm
 · simp only[aT]at hs
   by_cases hml:l=m
   · subst hml;exact h.ios l b hm (by rw[ho'];rfl)
   · rw[aUq hml]at hs;exact h.ios m b hm hs
end
/- The engine, part W: calls that write a row with rows within. -/
open Go.RowKit (Below)
def MeetsN (P:Program)(f:FuncId)(args:List PV)(old new:List PV)(r:PV):Prop :=
 ∀ (w:World) (cargs:Array Value) (ok:Nat->Prop) (κ0:Option Nat) (H:List Nat),XArgs w.heap ok (fun l=>if l=100000 then some κ0 else none) args cargs.toList->
  ((κ0=none/\old=[]/\H=[])\/∃ b cs t,κ0=some b/\¬ok b/\b∉H/\w.heap[b]?=some (.cells cs t (0,0))/\RelL w.heap true dead old cs 0 H)->H.Nodup->(∀ c∈H,¬ok c/\gA w c)->
  Calls P f cargs w fun e w'=>∃ c H',e=.returned c/\Same w w'/\(∀ b,b<w.heap.size->κ0≠some b->b∉H->w'.heap[b]?=w.heap[b]?)/\RelV w'.heap dead r c []/\
   (κ0=none->new=[]/\H'=[])/\(∀ b cs t,κ0=some b->w.heap[b]?=some (.cells cs t (0,0))->b∉H'/\∃ cs',w'.heap[b]?=some (.cells cs' t (0,0))/\cs'.size=cs.size/\RelL w'.heap true dead new cs' 0 H')/\
   H'.Nodup/\∀ c∈H',gA w' c/\(w.heap.size<=c\/c∈H)
section
variable {P:Program}{N:Nat}
def RetN (Γ:Ctx P N)(rs:Array ResultVar)(E:Env)(r:PV)(new:List PV):Prop :=
 RetIs Γ rs E r true/\∀ a w,Sim Γ E a w->∃ E',Sim Γ E' a w/\lo E'.o 100000=some ⟨new,true,false⟩
def aKu (Γ:Ctx P N)(rs:Array ResultVar)(r:PV)(new:List PV):Exit->Env->Prop
 | .normal,E=>RetN Γ rs E r new
 | .ret,E=>RetN Γ rs E r new
 | _,_=>False
def XRetN (Γ:Ctx P N)(rs:Array ResultVar)(r:PV)(new:List PV)(e:Exit)(E:Env):Prop:=e=.ret/\RetN Γ rs E r new
section
variable {Γ:Ctx P N}{E:Env}
theorem XRetN.mk {rs:Array ResultVar}{r:PV}{new:List PV}(h:RetN Γ rs E r new):XRetN Γ rs r new .ret E:=⟨rfl,h⟩
theorem XRetN.out {rs:Array ResultVar}{r:PV}{new:List PV}{e:Exit}(h:XRetN Γ rs r new e E):e=.ret/\RetN Γ rs E r new:=h
theorem RetN.mk {rs:Array ResultVar}{r:PV}{new:List PV}(h:RetIs Γ rs E r true)(ho:lo E.o 100000=some ⟨new,true,false⟩):RetN Γ rs E r new:=⟨h,fun _ _ hs=>⟨E,hs,ho⟩⟩
theorem RetN.weak {E0:Env}{rs:Array ResultVar}{r:PV}{new:List PV}(he:Ent Γ E E0)(h:RetN Γ rs E0 r new):RetN Γ rs E r new:=⟨aXh he h.1,fun a w hs=>h.2 a w (he a w hs)⟩
end
theorem MeetsN.intro {f:FuncId}{fn:Func}{c:Code}{args old new:List PV}{r:PV}{rs:Array ResultVar}(hf:P.funcs[f]?=some fn)(hb:fn.body=some c)(hN:fn.ntmps=N)(hrs:fn.results=rs)(hn:Nat.ble args.length N=true)
 (hnil:old=[]->new=[]) (hr:pE r=true)
 (h:∀ Γ:Ctx P N,(∀ l,Nat.blt l 100000=true->Γ.io l=none)->(∀ b,¬Γ.lent b)->CodeT Γ c ⟨iY args 0,[(100000,some ⟨old,true,false⟩)]⟩ (aKu Γ rs r new)):MeetsN P f args old new r:=by
 classical
 intro w cargs ok κ0 H ha hob hnd hH
 obtain⟨h1,h2⟩:=ha.get
 have hn:=aUZ hn
 let Γ:Ctx P N:={ base:=w.heap.size,ok:=ok,io:=fun l=>if l=100000 then κ0 else none,w0:=w,mine:=fun b=>b∈H,lent:=fun _=>False }
 have hsz:(cargs++Array.replicate (fn.ntmps-cargs.size) undef).size=N:=by
  have:cargs.size=args.length:=by rw[h1];simp
  simp[this,hN];omega
 have hlt:∀ b,(κ0=some b\/b∈H)->b<w.heap.size:=by
  rintro b (e | e)
  · rcases hob with⟨e',_⟩ | ⟨b',cs,t,e',_,_,g,_⟩
    · rw[e]at e';cases e'
    · rw[e]at e';cases e'
      rcases aVA b w.heap.size with h | h
      · exact h
      · simp[aVd h]at g
  · obtain⟨_,cs,t,g⟩:=hH b e
    rcases aVA b w.heap.size with h | h
    · exact h
    · simp[aVd h]at g
 have hκH:∀ b,κ0=some b->b∉H:=by
  intro b e
  rcases hob with⟨e',_⟩ | ⟨b',cs,t,e',_,g,_⟩
  · rw[e]at e';cases e'
  · rw[e]at e';cases e';exact g
 have hκok:∀ b,κ0=some b->¬ok b:=by
  intro b e
  rcases hob with⟨e',_⟩ | ⟨b',cs,t,e',g,_⟩
  · rw[e]at e';cases e'
  · rw[e]at e';cases e';exact g
 refine calls_of_wp hf hb ?_
 let ow:Nat->Own:=fun b=>if κ0=some b then .lab 100000 else if b∈H then .obj 100000 else .none
 let β:Nat->Option (Option Nat):=fun l=>if l=100000 then some κ0 else none
 have how1:∀ b,κ0=some b->ow b=.lab 100000:=fun b e=>by show(if _ then _ else _)=_;rw[aUs e]
 have how2:∀ b,b∈H->ow b=.obj 100000:=fun b e=>by
  show(if _ then _ else if _ then _ else _)=_
  rw[aUq (fun e'=>hκH b e' e),aUs e]
 have how3:∀ b l,ow b=.lab l->κ0=some b/\l=100000:=by
  intro b l e
  have e:(if κ0=some b then Own.lab 100000 else if b∈H then .obj 100000 else .none)=.lab l:=e
  split at e
  · rename_i h;injection e with e;exact⟨h,e.symm⟩
  · split at e <;> cases e
 have hsim:Sim Γ ⟨iY args 0,[(100000,some ⟨old,true,false⟩)]⟩ { tmps:=cargs++Array.replicate (fn.ntmps-cargs.size) undef,defers:=[] } w:=by
  refine⟨ow,β,{ size:=hsz,defers:=rfl,kept:=⟨rfl,rfl,rfl,aUI _,fun _ _ _ _=>rfl,fun b _ _ cs t h=>⟨cs,h,rfl⟩⟩,slots:=fun k=>?_,objs:=fun l ob hl=>?_,gone:=fun l hl=>?_,own:=fun b hb=>?_,ios:=fun l b hl _=>?_,fresh:=fun l b hl hi=>?_ }⟩
  · rw[pB]
    by_cases hk:k<args.length
    · rw[aUs ⟨aVk _,by simpa using hk⟩]
      obtain⟨B,g1,g2⟩:=h2 k hk
      refine⟨B,?_,fun b hb=>⟨aXA _ _ _ g1 b hb,.inl (g2 b hb),fun l e=>hκok b (how3 b l e).1 (g2 b hb)⟩,by simp⟩
      have e:(cargs++Array.replicate (fn.ntmps-cargs.size) undef).getD k undef=cargs.toList.getD k undef:=by
       have hlt:k<cargs.size:=by rw[h1]at hk;simpa using hk
       simp[aUV,aVF,hlt,aUU]
      rw[e]
      simpa only[aWt]using g1
    · rw[aUq (by simpa using hk)]
      exact⟨[],by simp[RelV],by simp,by simp⟩
  · simp only[aT]at hl
    by_cases e:100000=l
    · subst e
      rw[aUs rfl]at hl;cases hl
      refine⟨H,fun b hb=>⟨hlt b (.inr hb),.inr (.inl (.inr hb)),fun l=>by rw[how2 b hb];simp⟩,fun _=>⟨hnd,fun b hb=>⟨how2 b hb,(hH b hb).2⟩⟩,?_⟩
      rcases hob with⟨e1,e2,e3⟩ | ⟨b,cs,t,e1,_,_,e3,e4⟩
      · exact .inl ⟨by show(if _ then _ else _)=_;rw[aUs rfl,e1],e2,e3⟩
      · exact .inr ⟨b,cs,t,by show(if _ then _ else _)=_;rw[aUs rfl,e1],how1 b e1,e3,by simpa using e4⟩
    · rw[aUq e]at hl;simp[lo]at hl
  · simp only[aT]at hl
    by_cases e:100000=l
    · rw[aUs e]at hl;cases hl
    · show(if _ then _ else _)=_;rw[aUq (fun e'=>e e'.symm)]
  · by_cases e:κ0=some b
    · exact⟨hlt b (.inl e),.inr ⟨100000,how1 b e,by show(if(100000:Nat)=100000 then κ0 else none)=some b;rw[aUs rfl,e]⟩⟩
    · by_cases e2:b∈H
      · exact⟨hlt b (.inr e2),.inl (.inl (.inr e2))⟩
      · exfalso;apply hb;show(if _ then _ else if _ then _ else _)=_;rw[aUq e,aUq e2]
  · have hl:(if l=100000 then κ0 else none)=some b:=hl
    split at hl
    · rename_i e;show(if _ then _ else _)=_;rw[aUs e,hl]
    · cases hl
  · have hl:(if l=100000 then some κ0 else none)=some (some b):=hl
    have hi:(if l=100000 then κ0 else none)=none:=hi
    split at hl
    · rename_i e;rw[aUs e]at hi;rw[hi]at hl;cases hl
    · cases hl
 have hioN:∀ l,Nat.blt l 100000=true->Γ.io l=none:=by
  intro l hl
  have hl:=(aR _ _).1 hl
  show(if l=100000 then κ0 else none)=none
  rw[aUq (by omega)]
 refine wp_mono (h Γ hioN (fun _ h=>h) _ _ hsim) fun e a' w' ⟨E',hs',hq⟩=>?_
 have fin:RetN Γ rs E' r new->a'.defers=[]/\∃ v,(results fn a'.tmps).run P w'=.ok v w'/\∃ c H',Ending.returned v=.returned c/\Same w w'/\(∀ b,b<w.heap.size->κ0≠some b->b∉H->w'.heap[b]?=w.heap[b]?)/\RelV w'.heap dead r c []/\
  (κ0=none->new=[]/\H'=[])/\(∀ b cs t,κ0=some b->w.heap[b]?=some (.cells cs t (0,0))->b∉H'/\∃ cs',w'.heap[b]?=some (.cells cs' t (0,0))/\cs'.size=cs.size/\RelL w'.heap true dead new cs' 0 H')/\
  H'.Nodup/\∀ c∈H',gA w' c/\(w.heap.size<=c\/c∈H):=by
  rintro⟨hr1,hr2⟩
  obtain⟨c,B,g1,g2,_,_⟩:=hr1 fn hrs a' w' hs'
  have:=yI _ hr g2
  subst this
  obtain⟨E2,⟨ow2,β2,hs2⟩,hl⟩:=hr2 a' w' hs'
  obtain⟨Bo,k1,k2,k3⟩:=hs2.objs 100000 _ hl
  obtain⟨k2n,k2⟩:=k2 rfl
  refine⟨hs2.defers,c,g1,c,Bo,rfl,⟨hs2.kept.os,hs2.kept.output,hs2.kept.tape,hs2.kept.size⟩,fun b hb hn1 hn2=>hs2.kept.old b hb (fun l e=>?_) hn2,g2,fun e=>?_,fun b cs t e hc=>?_,k2n,fun c hc=>⟨(k2 c hc).2,?_⟩⟩
  · have e:(if l=100000 then κ0 else none)=some b:=e
    split at e
    · exact hn1 e
    · cases e
  · have en:new=[]:=hnil (by
     rcases hob with⟨_,e2,_⟩ | ⟨b,_,_,e2,_⟩
     · exact e2
     · rw[e]at e2;cases e2)
    refine⟨en,?_⟩
    rcases k3 with⟨_,_,k6⟩ | ⟨_,_,_,_,_,_,k7⟩
    · exact k6
    · subst en;simpa [RelL]using k7
  · have hβ:=hs2.ios 100000 b (by show(if(100000:Nat)=100000 then κ0 else none)=some b;rw[aUs rfl,e]) (by rw[hl];rfl)
    rcases k3 with⟨k4,_⟩ | ⟨b',cs',t',k4,k5,k6,k7⟩
    · rw[hβ]at k4;cases k4
    · rw[hβ]at k4;cases k4
      obtain⟨cs2,q1,q2⟩:=hs2.kept.ios b (hlt b (.inl e)) (hκH b e) cs t hc
      rw[k6]at q1;cases q1
      exact⟨fun hb=>(k1 b hb).2.2 _ k5,cs',k6,q2,by simpa using k7⟩
  · have e:=(k2 c hc).1
    rcases(hs2.own c (by rw[e];simp)).2 with g | ⟨m,g,_⟩
    · exact(g.elim id False.elim:Γ.nww c)
    · rw[e]at g;cases g
 cases e with
 | normal=>exact fin hq
 | ret=>exact fin hq
 | exit id=>exact hq.elim
 | goto l=>exact hq.elim
 | panic ch=>exact hq.elim
 | outgrown=>exact hq.elim
end
section
variable {P:Program}{N:Nat}{Γ:Ctx P N}{S:List (Nat×Slot)}{O:List (Nat×Option Ob)}{ow:Nat->Own}{β:Nat->Option (Option Nat)}{F:Env}{a:Act}{w:World}
variable {d:Nat}{ty:TypeId}{pos:String}{af:Array Edge}{g:Option (Nat×Bool)}
end
/- The engine, part AA: parameters that may be read again; results with rows within. -/
open Go.RowKit (Below)
section
variable {P:Program}{N:Nat}{Γ:Ctx P N}{S:List (Nat×Slot)}{O:List (Nat×Option Ob)}{ow:Nat->Own}{β:Nat->Option (Option Nat)}{F:Env}{a:Act}{w:World}
def aSK (Γ:Ctx P N)(c:Value)(p:PV):Prop:=p.labs=[]/\∃ B,RelV Γ.w0.heap dead p c B/\∀ b∈B,Γ.ok b/\b<Γ.base/\(¬Γ.mine b/\¬Γ.lent b)/\∀ l,Γ.io l≠some b
end
/- The engine, part BB: results with rows within get labels. -/
open Go.RowKit (Below)
section
variable {P:Program}{N:Nat}{Γ:Ctx P N}{S:List (Nat×Slot)}{O:List (Nat×Option Ob)}{ow:Nat->Own}{β:Nat->Option (Option Nat)}{F:Env}{a:Act}{w:World}
theorem Rows.nil {h:Array Obj}{blk:Nat->Option (Option Nat)}{nest:Nat->List Nat}{B:List Nat}:Rows [] h blk nest B:=⟨by simp,by simp,by simp,by simp,by simp,by simp⟩
theorem Rows.append {h:Array Obj}{us vs:List (Nat×Option Ob)}{blk blk':Nat->Option (Option Nat)}{nest nest':Nat->List Nat}{B B':List Nat}(h1:Rows us h blk nest B)(h2:Rows vs h blk' nest' B')(hd:∀ l∈us.map (·.1),l∉vs.map (·.1))(hB:∀ b∈B,b∉B') :
 ∃ b2 n2,(∀ l∈us.map (·.1),b2 l=blk l)/\(∀ l∈vs.map (·.1),b2 l=blk' l)/\Rows (us++vs) h b2 n2 (B++B'):=by
 classical
 let b2:Nat->Option (Option Nat):=fun l=>if l∈us.map (·.1)then blk l else blk' l
 let n2:Nat->List Nat:=fun l=>if l∈us.map (·.1)then nest l else nest' l
 have eb1:∀ l∈us.map (·.1),b2 l=blk l:=fun l hl=>by show(if _ then _ else _)=_;rw[aUs hl]
 have eb2:∀ l∈vs.map (·.1),b2 l=blk' l:=fun l hl=>by show(if _ then _ else _)=_;rw[aUq (fun e=>hd l e hl)]
 have en1:∀ l∈us.map (·.1),n2 l=nest l:=fun l hl=>by show(if _ then _ else _)=_;rw[aUs hl]
 have en2:∀ l∈vs.map (·.1),n2 l=nest' l:=fun l hl=>by show(if _ then _ else _)=_;rw[aUq (fun e=>hd l e hl)]
 have hm:∀ l,l∈(us++vs).map (·.1)->l∈us.map (·.1)\/l∈vs.map (·.1):=fun l hl=>by rw[aVE]at hl;exact aUz.1 hl
 refine⟨b2,n2,eb1,eb2,⟨fun l hl=>?_,fun l hl=>?_,fun l hl b hb=>?_,fun l hl l' hl' b hb hb'=>?_,fun l hl l' hl' b hb hb'=>?_,fun l hl l' hl' c hc hc'=>?_⟩⟩
 · rcases hm l hl with hl | hl
   · obtain⟨cells,g1,g2⟩:=h1.ob l hl
     exact⟨cells,by rw[dG _ _ _ hl];exact g1,by rw[eb1 l hl,en1 l hl];exact g2⟩
   · obtain⟨cells,g1,g2⟩:=h2.ob l hl
     exact⟨cells,by rw[bZ _ _ _ (fun e=>hd l e hl)];exact g1,by rw[eb2 l hl,en2 l hl];exact g2⟩
 · rcases hm l hl with hl | hl
   · rw[en1 l hl];exact⟨(h1.nd l hl).1,fun c hc=>aVe _ ((h1.nd l hl).2 c hc)⟩
   · rw[en2 l hl];exact⟨(h2.nd l hl).1,fun c hc=>aU8 _ ((h2.nd l hl).2 c hc)⟩
 · rcases hm l hl with hl | hl
   · rw[eb1 l hl]at hb;exact aVe _ (h1.inB l hl b hb)
   · rw[eb2 l hl]at hb;exact aU8 _ (h2.inB l hl b hb)
 · rcases hm l hl with hl | hl <;> rcases hm l' hl' with hl' | hl'
   · rw[eb1 l hl]at hb;rw[eb1 l' hl']at hb';exact h1.bb l hl l' hl' b hb hb'
   · rw[eb1 l hl]at hb;rw[eb2 l' hl']at hb';exact absurd (h2.inB l' hl' b hb') (hB b (h1.inB l hl b hb))
   · rw[eb2 l hl]at hb;rw[eb1 l' hl']at hb';exact absurd (h2.inB l hl b hb) (hB b (h1.inB l' hl' b hb'))
   · rw[eb2 l hl]at hb;rw[eb2 l' hl']at hb';exact h2.bb l hl l' hl' b hb hb'
 · rcases hm l hl with hl | hl <;> rcases hm l' hl' with hl' | hl'
   · rw[eb1 l hl]at hb;rw[en1 l' hl']at hb';exact h1.bn l hl l' hl' b hb hb'
   · rw[eb1 l hl]at hb;rw[en2 l' hl']at hb';exact hB b (h1.inB l hl b hb) ((h2.nd l' hl').2 b hb')
   · rw[eb2 l hl]at hb;rw[en1 l' hl']at hb';exact hB b ((h1.nd l' hl').2 b hb') (h2.inB l hl b hb)
   · rw[eb2 l hl]at hb;rw[en2 l' hl']at hb';exact h2.bn l hl l' hl' b hb hb'
 · rcases hm l hl with hl | hl <;> rcases hm l' hl' with hl' | hl'
   · rw[en1 l hl]at hc;rw[en1 l' hl']at hc';exact h1.nn l hl l' hl' c hc hc'
   · rw[en1 l hl]at hc;rw[en2 l' hl']at hc';exact absurd ((h2.nd l' hl').2 c hc') (hB c ((h1.nd l hl).2 c hc))
   · rw[en2 l hl]at hc;rw[en1 l' hl']at hc';exact absurd ((h2.nd l hl).2 c hc) (hB c ((h1.nd l' hl').2 c hc'))
   · rw[en2 l hl]at hc;rw[en2 l' hl']at hc';exact h2.nn l hl l' hl' c hc hc'
variable {d:Nat}{ty:TypeId}{pos:String}{af:Array Edge}{g:Option (Nat×Bool)}
end
/- The engine, part CC: values put together from others, values softened. -/
open Go.RowKit (Below)
section
variable {P:Program}{N:Nat}{Γ:Ctx P N}{S:List (Nat×Slot)}{O:List (Nat×Option Ob)}{ow:Nat->Own}{β:Nat->Option (Option Nat)}{F:Env}{a:Act}{w:World}
open Classical in
theorem SimG.gather (h:SimG Γ ow β F a w){d:Nat}(hd:d<N)(ks:List Nat){v:PV}{c:Value}{B:List Nat}{dp:Bool}(hv:RelV w.heap β v c B)(hB:∀ b∈B,Im Γ ow w b)
 (hdeep:dp=true->B.Nodup/\∀ b∈B,gA w b/\Γ.nw b/\(ow b=.none\/∃ k∈ks,ow b=.slot k)) :
 ∃ ow',SimG Γ ow' β (F.app ⟨(d,⟨v,dp⟩)::ks.map (fun j=>(j,⟨.any,false⟩)),[]⟩) (a.put (some d) c) w:=by
 let ow':Nat->Own:=fun b=>if b∈B/\dp=true then .slot d else ow b
 have hst:∀ b o,ow b=o->(∀ k∈ks,o≠.slot k)->o≠.none->ow' b=o:=by
  intro b o e h1 h2
  show(if _ then _ else _)=_
  rw[aUq]
  · exact e
  · rintro⟨hb,hx⟩
    rcases((hdeep hx).2 b hb).2.2 with e' | ⟨k,hk,e'⟩
    · rw[e]at e';exact h2 e'
    · rw[e]at e';exact h1 k hk e'
 have hIm:∀ b,Im Γ ow w b->Im Γ ow' w b:=by
  intro b ⟨h1,h2,h3⟩
  refine⟨h1,h2,fun l=>?_⟩
  show(if _ then _ else _)≠_
  split
  · simp
  · exact h3 l
 refine⟨ow',{ size:=by simp[Act.put,h.size],defers:=by simp[Act.put,h.defers],kept:=h.kept,slots:=fun k=>?_,objs:=fun l ob hl=>?_,gone:=by simpa [Env.app]using h.gone,own:=fun b hb=>?_,ios:=by simpa [Env.app]using h.ios,fresh:=h.fresh }⟩
 · simp only[Env.app,aUB,gI,Act.put]
   by_cases hk:d=k
   · subst hk
     rw[aUs rfl,lT (by rw[h.size];exact hd)]
     exact⟨B,hv,fun b hb=>hIm b (hB b hb),fun hx=>⟨(hdeep hx).1,fun b hb=>⟨by show(if _ then _ else _)=_;rw[aUs ⟨hb,hx⟩],((hdeep hx).2 b hb).1⟩⟩⟩
   · rw[aUq hk,sZ hk]
     rw[aCn]
     by_cases hks:k∈ks
     · rw[aUs hks];exact⟨[],by simp[RelV],by simp,by simp⟩
     · rw[aUq hks]
       obtain⟨O',g1,g2,g3⟩:=h.slots k
       exact⟨O',g1,fun b hb=>hIm b (g2 b hb),fun hx=>⟨(g3 hx).1,fun b hb=>⟨hst b _ ((g3 hx).2 b hb).1 (fun k' hk' e=>by injection e with e;exact hks (e▸hk')) (by simp),((g3 hx).2 b hb).2⟩⟩⟩
 · simp only[Env.app,aUx]at hl
   obtain⟨O',g1,g2,g3⟩:=h.objs l ob hl
   refine⟨O',fun b hb=>hIm b (g1 b hb),fun hx=>⟨(g2 hx).1,fun b hb=>⟨hst b _ ((g2 hx).2 b hb).1 (by simp) (by simp),((g2 hx).2 b hb).2⟩⟩,?_⟩
   rcases g3 with g3 | ⟨b,cs,t,e1,e2,e3,e4⟩
   · exact .inl g3
   · exact .inr ⟨b,cs,t,e1,hst b _ e2 (by simp) (by simp),e3,e4⟩
 · by_cases hbB:b∈B/\dp=true
   · exact⟨(hB b hbB.1).1,.inl ((hdeep hbB.2).2 b hbB.1).2.1⟩
   · have e:ow' b=ow b:=by show(if _ then _ else _)=_;rw[aUq hbB]
     rw[e]at hb
     obtain⟨g1,g2⟩:=h.own b hb
     exact⟨g1,by rw[e];exact g2⟩
theorem Ent.soften {l:Nat}{cells cells':List PV}{dp bx:Bool}(ho:loq O l=some ⟨cells,dp,bx⟩)(hl:SoftL cells cells'):Ent Γ ⟨S,O⟩ ⟨S,(l,some ⟨cells',dp,bx⟩)::O⟩:=by
 rintro a w ⟨ow,β,h⟩
 have ho':lo (Env.mk S O).o l=some ⟨cells,dp,bx⟩:=by rw[<- dA];exact ho
 refine⟨ow,β,{ size:=h.size,defers:=h.defers,kept:=h.kept,slots:=h.slots,objs:=fun m ob hm=>?_,gone:=fun m hm=>?_,own:=h.own,ios:=fun m b hm hs=>?_,fresh:=h.fresh }⟩
 · simp only[aT]at hm
   by_cases hml:l=m
   · subst hml
     rw[aUs rfl]at hm;cases hm
     obtain⟨B,o1,o2,o3⟩:=h.objs l _ ho'
     refine⟨B,o1,o2,o3.imp (fun⟨e1,e2,e3⟩=>⟨e1,by simp only at e2 ⊢;subst e2;exact hl.empty,e3⟩) fun⟨b,cs,t,e1,e2,e3,e4⟩=>⟨b,cs,t,e1,e2,e3,hl.2 _ _ _ _ _ _ e4⟩⟩
   · rw[aUq hml]at hm;exact h.objs m ob hm
 · simp only[aT]at hm
   by_cases hml:l=m
   · rw[aUs hml]at hm;cases hm
   · rw[aUq hml]at hm;exact h.gone m hm
 · simp only[aT]at hs
   by_cases hml:l=m
   · subst hml;exact h.ios l b hm (by rw[ho'];rfl)
   · rw[aUq hml]at hs;exact h.ios m b hm hs
theorem Ent.softS {k:Nat}{p p':PV}{dp:Bool}(hk:lkq S k=some ⟨p,dp⟩)(hs:Soft p p'):Ent Γ ⟨S,O⟩ ⟨(k,⟨p',dp⟩)::S,O⟩:=by
 rintro a w ⟨ow,β,h⟩
 refine⟨ow,β,{ size:=h.size,defers:=h.defers,kept:=h.kept,slots:=fun j=>?_,objs:=h.objs,gone:=h.gone,own:=h.own,ios:=h.ios,fresh:=h.fresh }⟩
 simp only[gI]
 by_cases hj:k=j
 · subst hj
   rw[aUs rfl]
   obtain⟨B,g1,g2,g3⟩:=h.slots k
   simp only[gH hk]at g1 g3
   exact⟨B,hs _ _ _ _ g1,g2,g3⟩
 · rw[aUq hj];exact h.slots j
variable {d:Nat}{ty:TypeId}{pos:String}{af:Array Edge}{g:Option (Nat×Bool)}
theorem Local.soft {o:Oper}{d:Nat}{p p':PV}{dp:Bool}{us:List (Nat×Option Ob)}{rs ro nl:List Nat}(hs:Soft p p')(h:Local Γ o ⟨S,O⟩ ⟨[(d,⟨p,dp⟩)],us⟩ rs ro nl):Local Γ o ⟨S,O⟩ ⟨[(d,⟨p',dp⟩)],us⟩ rs ro nl:=by
 intro F h1 h2 h3 a w hsim Q
 refine Oper.wp_mono ?_ (h F h1 h2 h3 a w hsim Q)
 rintro a' w' ⟨ow,β,h'⟩
 refine⟨ow,β,{ size:=h'.size,defers:=h'.defers,kept:=h'.kept,slots:=fun j=>?_,objs:=h'.objs,gone:=h'.gone,own:=h'.own,ios:=h'.ios,fresh:=h'.fresh }⟩
 obtain⟨B,g1,g2,g3⟩:=h'.slots j
 simp only[Env.app,aUB,aUx,gI]at g1 g3 ⊢
 by_cases hj:d=j
 · rw[aUs hj]at g1 g3 ⊢
   exact⟨B,hs _ _ _ _ g1,g2,g3⟩
 · rw[aUq hj]at g1 g3 ⊢
   exact⟨B,g1,g2,g3⟩
end
def aXi:=@Local.soft
def aXp:=@Ent.soften
/- The engine, part DD: struct literals. -/
open Go.RowKit (Below)
class PlT (P:Program) (t:Nat) (pl:outParam (List (Nat×Nat))):Prop where
 ok:∃ fs,P.underlying t=some (.struct fs)/\fs.toList.mapM (fun f=>(P.info? f.type).map fun i=>(f.offset,i.size))=some pl
theorem PlT.of {P:Program}{t:Nat}{pl:List (Nat×Nat)}(h:(match P.underlying t with | some (.struct fs)=>fs.toList.mapM (fun f=>(P.info? f.type).map fun i=>(f.offset,i.size)) | _=>none)=some pl):PlT P t pl:=by
 split at h
 · rename_i fs hu;exact⟨fs,hu,h⟩
 · cases h
inductive BuildV (S:List (Nat×Slot)) (pl:List (Nat×Nat)) (dp:Bool):List (Nat×Operand)->List PV->List PV->List Nat->Prop
 | nil {cells:List PV}:BuildV S pl dp [] cells cells []
 | sc {i off n:Nat} {x:Operand} {p:PV} {r:List (Nat×Operand)} {cells cells':List PV} {ks:List Nat}:evq S x=some p->pE p=true->p.labs=[]->stB [] false p=true->pl[i]?=some (off,n)->Nat.beq (bD p).length n=true->Nat.ble (off+n) cells.length=true->
  BuildV S pl dp r (cells.take off++bD p++cells.drop (off+n)) cells' ks->BuildV S pl dp ((i,x)::r) cells cells' ks
 | tk {i off n k:Nat} {p:PV} {r:List (Nat×Operand)} {cells cells':List PV} {ks:List Nat}:lkq S k=some ⟨p,true⟩->p.labs=[]->stB [] false p=true->pl[i]?=some (off,n)->Nat.beq (bD p).length n=true->Nat.ble (off+n) cells.length=true->zD ks k=false->
  BuildV S pl dp r (cells.take off++bD p++cells.drop (off+n)) cells' ks->BuildV S pl dp ((i,.tmp k)::r) cells cells' (k::ks)
 | sh {i off n:Nat} {x:Operand} {p:PV} {r:List (Nat×Operand)} {cells cells':List PV} {ks:List Nat}:dp=false->evq S x=some p->p.labs=[]->stB [] false p=true->pl[i]?=some (off,n)->Nat.beq (bD p).length n=true->Nat.ble (off+n) cells.length=true->
  BuildV S pl dp r (cells.take off++bD p++cells.drop (off+n)) cells' ks->BuildV S pl dp ((i,x)::r) cells cells' ks
section
variable {P:Program}{N:Nat}{Γ:Ctx P N}{S:List (Nat×Slot)}{O:List (Nat×Option Ob)}{ow:Nat->Own}{β:Nat->Option (Option Nat)}{F:Env}{a:Act}{w:World}
theorem aNN {place:Nat->Option (Nat×Nat)}{cs:Array Value}{i off n:Nat}{v:Value}{rest:List (Nat×Value)}(hp:place i=some (off,n))(hv:v.cells.size=n)(hk:off+n<=cs.size) :
 Instr.fill place cs ((i,v)::rest)=Instr.fill place (cs.toList.take off++v.cells.toList++cs.toList.drop (off+n)).toArray rest:=by
 have e:v.cells.zipIdx.foldl (fun cs (c,j)=>cs.setIfInBounds (off+j) c) cs=(cs.toList.take off++v.cells.toList++cs.toList.drop (off+n)).toArray:=by
  rw[<- Array.foldl_toList,Array.toList_zipIdx]
  have hfs:=Go.Great.foldl_set off v.cells.toList 0 cs
  apply Array.ext_getElem?
  intro k
  have hl:(cs.toList.take off).length=off:=by simp;omega
  have hvl:v.cells.toList.length=n:=by simpa using hv
  rw[hfs.2 k]
  conv=>rhs;rw[aVS,aUO]
  by_cases h1:k<off
  · rw[aUq (by omega),aVm (l₁:=cs.toList.take off) (by omega),aWc,aUs h1];simp
  · rw[aVl (l₁:=cs.toList.take off) (by omega),hl]
    by_cases h2:k<off+n
    · rw[aUs ⟨by omega,by omega,by omega⟩,aVm (by omega),aVh]
    · rw[aUq (by omega),aVl (by omega),hvl,aWd,show off+n+(k-off-n)=k by omega];simp
 conv=>lhs;unfold Instr.fill
 simp only[hp]
 rw[aUq (by simp;omega),e]
theorem aLP (hsim:SimG Γ ow β F a w){pl:List (Nat×Nat)}{dp:Bool}{ps:List (Nat×Operand)}{cells cells':List PV}{ks:List Nat}(H:BuildV S pl dp ps cells cells' ks):(∀ j∈aAV ps,lk F.s j=lk S j)->
 ∀ (cs:Array Value) (B ks0:List Nat),cs.size=cells.length->RelL w.heap true dead cells cs 0 B->(∀ b∈B,Im Γ ow w b)->(dp=true->B.Nodup/\∀ b∈B,gA w b/\Γ.nw b/\∃ k∈ks0,ow b=.slot k)->(∀ k∈ks,k∉ks0)->
 ∃ cs' B',Instr.fill (fun i=>pl[i]?) cs (ps.map fun p=>(p.1,a.eval p.2))=some cs'/\cs'.size=cells'.length/\RelL w.heap true dead cells' cs' 0 B'/\(∀ b∈B',Im Γ ow w b)/\(dp=true->B'.Nodup/\∀ b∈B',gA w b/\Γ.nw b/\∃ k∈ks0++ks,ow b=.slot k):=by
 have step:∀ {i off n:Nat} {x:Operand} {p:PV} {cells:List PV} {c:Value} {Bp:List Nat} (cs:Array Value) (B:List Nat) (rest:List (Nat×Value)),RelV w.heap β p c Bp->p.labs=[]->stB [] false p=true->pl[i]?=some (off,n)->(bD p).length=n->off+n<=cells.length->cs.size=cells.length->RelL w.heap true dead cells cs 0 B->
  ∃ cs2 B1 B2 B3,B=B1++(B2++B3)/\Instr.fill (fun i=>pl[i]?) cs ((i,c)::rest)=Instr.fill (fun i=>pl[i]?) cs2 rest/\cs2.size=(cells.take off++bD p++cells.drop (off+n)).length/\RelL w.heap true dead (cells.take off++bD p++cells.drop (off+n)) cs2 0 (B1++(Bp++B3)):=by
  intro i off n x p cells c Bp cs B rest hr hl hst hpl hn hk hsz hB
  obtain⟨r1,r2,r3⟩:=tC (O:=[]) hsim hr hst (by simp[xE,hl])
  simp only[aUv,aUT]at r1
  have hcs:c.cells.size=n:=by omega
  obtain⟨B1,B2,B3,e1,e2⟩:=aER (k:=off) (n:=n) (xs:=c.cells.toList) hB (by simpa using r1) hn (by simpa using hcs) hk (by omega)
  refine⟨_,B1,B2,B3,e1,aNN (by exact hpl) hcs (by omega),?_,e2⟩
  simp only[List.size_toArray,aUF,aVp,aV2,aWH]
  omega
 induction H with
 | nil=>intro _ cs B ks0 h1 h2 h3 h4 _;exact⟨cs,B,rfl,h1,h2,h3,fun hd=>⟨(h4 hd).1,fun b hb=>by obtain⟨q1,q2,k,q3,q4⟩:=(h4 hd).2 b hb;exact⟨q1,q2,k,by simp[q3],q4⟩⟩⟩
 | @sc i off n x p r cells cells' ks e1 e2 e3 e4 e5 e6 e7 _ ih =>
  intro hs cs B ks0 h1 h2 h3 h4 h5
  obtain⟨Bp,g1,_⟩:=cK hsim e1 (fun j hj=>hs j (by simp[aAV,hj]))
  have:=yI _ e2 g1
  subst this
  obtain⟨cs2,B1,B2,B3,q1,q2,q3,q4⟩:=step (x:=x) cs B (r.map fun p=>(p.1,a.eval p.2)) g1 e3 e4 e5 (aU0 e6) (aUZ e7) h1 h2
  subst q1
  have hsub:∀ b,b∈B1++([]++B3)->b∈B1++(B2++B3):=fun b hb=>by simp only[aUx,aUz]at hb ⊢;rcases hb with hb | hb;exact .inl hb;exact .inr (.inr hb)
  obtain⟨cs',B',k1,k2⟩:=ih (fun j hj=>hs j (by simp[aAV,hj])) cs2 _ ks0 q3 q4 (fun b hb=>h3 b (hsub b hb)) (fun hd=>by
   obtain⟨n1,n2⟩:=h4 hd
   refine⟨?_,fun b hb=>n2 b (hsub b hb)⟩
   have n3:=aUQ.1 n1
   have n4:=aUQ.1 n3.2.1
   exact aUQ.2 ⟨n3.1,by simpa using n4.2.1,fun x hx y hy=>n3.2.2 x hx y (by simp only[aUx]at hy;simp[hy])⟩) h5
  exact⟨cs',B',by rw[aUH,q2];exact k1,k2⟩
 | @tk i off n k p r cells cells' ks e1 e3 e4 e5 e6 e7 e8 _ ih =>
  intro hs cs B ks0 h1 h2 h3 h4 h5
  obtain⟨Bp,g1,g2,g3⟩:=hsim.slots k
  rw[hs k (by simp[aAV,ors]),gH e1]at g1 g3
  obtain⟨g4,g5⟩:=g3 rfl
  obtain⟨cs2,B1,B2,B3,q1,q2,q3,q4⟩:=step (x:=.tmp k) cs B (r.map fun p=>(p.1,a.eval p.2)) g1 e3 e4 e5 (aU0 e6) (aUZ e7) h1 h2
  subst q1
  have hk0:k∉ks0:=h5 k (by simp)
  obtain⟨cs',B',k1,k2,k3,k4,k5⟩:=ih (fun j hj=>hs j (by simp[aAV,hj])) cs2 _ (ks0++[k]) q3 q4 (fun b hb=>by
   simp only[aUz]at hb
   rcases hb with hb | hb | hb
   · exact h3 b (by simp[hb])
   · exact g2 b hb
   · exact h3 b (by simp[hb])) (fun hd=>by
   obtain⟨n1,n2⟩:=h4 hd
   have n3:=aUQ.1 n1
   have n4:=aUQ.1 n3.2.1
   have hne:∀ b,b∈B1++(B2++B3)->b∉Bp:=by
    intro b hb hb'
    obtain⟨_,_,k',hk',e⟩:=n2 b hb
    rw[(g5 b hb').1]at e;injection e with e;subst e;exact hk0 hk'
   refine⟨aUQ.2 ⟨n3.1,aUQ.2 ⟨g4,n4.2.1,fun x hx y hy e=>hne y (by simp[hy]) (e▸hx)⟩,fun x hx y hy=>?_⟩,fun b hb=>?_⟩
   · rcases aUz.1 hy with hy | hy
     · intro e;exact hne x (by simp[hx]) (e▸hy)
     · exact n3.2.2 x hx y (by simp[hy])
   · simp only[aUz]at hb
     have old:b∈B1++(B2++B3)->gA w b/\Γ.nw b/\∃ k'∈ks0++[k],ow b=.slot k':=fun hb=>by
      obtain⟨u1,u2,k',u3,u4⟩:=n2 b hb
      exact⟨u1,u2,k',by simp[u3],u4⟩
     rcases hb with hb | hb | hb
     · exact old (by simp[hb])
     · refine⟨(g5 b hb).2,?_,k,by simp,(g5 b hb).1⟩
       rcases(hsim.own b (by rw[(g5 b hb).1];simp)).2 with g | ⟨m,g,_⟩
       · exact g
       · rw[(g5 b hb).1]at g;cases g
     · exact old (by simp[hb])) (fun k' hk' hm=>by
   rcases aUz.1 hm with hm | hm
   · exact h5 k' (by simp[hk']) hm
   · rw[aU2]at hm;subst hm
     rw[(lD _ _).2 hk']at e8;cases e8)
  exact⟨cs',B',by rw[aUH,show a.eval (.tmp k)=a.tmps.getD k undef from rfl,q2];exact k1,k2,k3,k4,fun hd=>by simpa using k5 hd⟩
 | @sh i off n x p r cells cells' ks e0 e1 e3 e4 e5 e6 e7 _ ih =>
  intro hs cs B ks0 h1 h2 h3 h4 h5
  obtain⟨Bp,g1,g2⟩:=cK hsim e1 (fun j hj=>hs j (by simp[aAV,hj]))
  obtain⟨cs2,B1,B2,B3,q1,q2,q3,q4⟩:=step (x:=x) cs B (r.map fun p=>(p.1,a.eval p.2)) g1 e3 e4 e5 (aU0 e6) (aUZ e7) h1 h2
  subst q1
  obtain⟨cs',B',k1,k2⟩:=ih (fun j hj=>hs j (by simp[aAV,hj])) cs2 _ ks0 q3 q4 (fun b hb=>by
   simp only[aUz]at hb
   rcases hb with hb | hb | hb
   · exact h3 b (by simp[hb])
   · exact g2 b hb
   · exact h3 b (by simp[hb])) (fun hd=>by rw[e0]at hd;cases hd) h5
  exact⟨cs',B',by rw[aUH,q2];exact k1,k2⟩
variable {d:Nat}{ty:TypeId}{pos:String}{af:Array Edge}{g:Option (Nat×Bool)}
theorem aKY {t:Nat}{parts:Array (Nat×Operand)}{zs cells:List PV}{pl:List (Nat×Nat)}{ks:List Nat}(dp:Bool)[hz:ZT P t zs][hp:PlT P t pl](hb:BuildV S pl dp parts.toList zs cells ks)(hnl:qB cells=true)(hd:Nat.blt d N=true) :
 Local Γ ⟨some d,.build t parts,ty,pos,af,g⟩ ⟨S,O⟩ ⟨(d,⟨.agg cells,dp⟩)::ks.map (fun j=>(j,⟨.any,false⟩)),[]⟩ (aAV parts.toList) [] []:=by
 intro F hs _ _
 refine bE fun a w ⟨ow,β,hsim⟩=>?_
 obtain⟨it,z,z1,z2,z3,z4,rfl⟩:=hz.ok
 obtain⟨fs,p1,p2⟩:=hp.ok
 have h1c:∀ v∈z.cells.toList,v.oneCell'=true:=fun v hv=>List.all_eq_true.1 z4 v hv
 have hrel0:RelL w.heap true dead (z.cells.toList.map .sc) z.cells 0 []:=by
  have:=aDu (h:=w.heap) (β:=dead) (vs:=z.cells.toList) (pre:=[]) h1c
  simpa using this
 obtain⟨cs',B',k1,k2,k3,k4,k5⟩:=aLP hsim hb hs z.cells [] [] (by simp) hrel0 (by simp) (fun _=>⟨by simp,by simp⟩) (by simp)
 have hrun:(Instr.build t (parts.map fun(i,x)=>(i,a.eval x))).run P w=.ok (.agg cs') w:=by
  refine run_build w t _ cs' ?_
  unfold Program.built
  simp only[z1,p1,z2,p2]
  rw[<- k1]
  congr 1
  · funext i;simp
  · simp
 have hrel:RelV w.heap β (.agg cells) (.agg cs') B':=by
  simp only[RelV]
  exact⟨cs',rfl,k2,yF (qA hnl) k3⟩
 obtain⟨ow',h'⟩:=hsim.gather ((aR _ _).1 hd) ks hrel k4 (fun hx=>⟨(k5 hx).1,fun b hb=>by
  obtain⟨q1,q2,k,q3,q4⟩:=(k5 hx).2 b hb
  exact⟨q1,q2,.inr ⟨k,by simpa using q3,q4⟩⟩⟩) (dp:=dp)
 refine⟨.agg cs',w,?_,ow',β,h'⟩
 simp only[execOp]
 rw[Sem.run_bind,hrun]
 rfl
end
/- The engine, part EE: softening, more. -/
open Go.RowKit (Below)
theorem Soft.nilW {s:Nat}:Soft (.sc (.slice none 0 0)) (.rw s 0 []):=by
 intro h β c B H
 simp only[RelV]at H ⊢
 exact .inl ⟨trivial,trivial,H.2,H.1⟩
theorem Soft.nilS:Soft (.sc (.slice none 0 0)) (.sl 0 []):=by
 intro h β c B H
 simp only[RelV]at H ⊢
 exact .inl ⟨trivial,trivial,H.2,none,0,H.1⟩
theorem SoftL.rep {α:Type}{e e':α->List PV}{z:α}(h:SoftL (e z) (e' z)):∀ n:Nat,SoftL ((List.replicate n z).flatMap e) ((List.replicate n z).flatMap e')
 | 0=>aXj
 | n+1=>by rw[aV5,aVc,aVc];exact h.app (SoftL.rep h n)
section
variable {P:Program}{N:Nat}{Γ:Ctx P N}{S:List (Nat×Slot)}{O:List (Nat×Option Ob)}{ow:Nat->Own}{β:Nat->Option (Option Nat)}{F:Env}{a:Act}{w:World}
theorem Local.softO {o:Oper}{l:Nat}{ss:List (Nat×Slot)}{cells cells':List PV}{dp bx:Bool}{rs ro nl:List Nat}(hs:SoftL cells cells')(h:Local Γ o ⟨S,O⟩ ⟨ss,[(l,some ⟨cells,dp,bx⟩)]⟩ rs ro nl):Local Γ o ⟨S,O⟩ ⟨ss,[(l,some ⟨cells',dp,bx⟩)]⟩ rs ro nl:=by
 intro F h1 h2 h3 a w hsim Q
 refine Oper.wp_mono ?_ (h F h1 h2 h3 a w hsim Q)
 rintro a' w' ⟨ow,β,h'⟩
 refine⟨ow,β,{ size:=h'.size,defers:=h'.defers,kept:=h'.kept,slots:=h'.slots,objs:=fun m ob hm=>?_,gone:=fun m hm=>?_,own:=h'.own,ios:=fun m b hm hx=>?_,fresh:=h'.fresh }⟩
 · simp only[Env.app,aUB,aUx,aT]at hm
   by_cases hml:l=m
   · subst hml
     rw[aUs rfl]at hm;cases hm
     obtain⟨B,o1,o2,o3⟩:=h'.objs l ⟨cells,dp,bx⟩ (by simp[Env.app,aT])
     refine⟨B,o1,o2,o3.imp (fun⟨e1,e2,e3⟩=>⟨e1,by simp only at e2 ⊢;subst e2;exact hs.empty,e3⟩) fun⟨b,cs,t,e1,e2,e3,e4⟩=>⟨b,cs,t,e1,e2,e3,hs.2 _ _ _ _ _ _ e4⟩⟩
   · rw[aUq hml]at hm
     exact h'.objs m ob (by simp only[Env.app,aUB,aUx,aT];rw[aUq hml];exact hm)
 · simp only[Env.app,aUB,aUx,aT]at hm
   by_cases hml:l=m
   · rw[aUs hml]at hm;cases hm
   · rw[aUq hml]at hm
     exact h'.gone m (by simp only[Env.app,aUB,aUx,aT];rw[aUq hml];exact hm)
 · refine h'.ios m b hm ?_
   simp only[Env.app,aUB,aUx,aT]at hx ⊢
   by_cases hml:l=m
   · rw[aUs hml];rfl
   · rw[aUq hml]at hx ⊢;exact hx
end
def aXd:=@Soft.nilW
/- The engine, part FF: values handed in for good: their blocks may go into the result. -/
open Go.RowKit (Below)
def DArgs (h:Array Obj)(ok:Nat->Prop)(H:Nat->List Nat):List (PV×Bool)->List Value->Nat->Prop
 | [],[],_=>True
 | (p,false)::ps,c::cs,k=>(∃ B,RelV h dead p c B/\∀ b∈B,ok b)/\DArgs h ok H ps cs (k+1)
 | (p,true)::ps,c::cs,k=>RelV h dead p c (H k)/\DArgs h ok H ps cs (k+1)
 | _,_,_=>False
def MeetsD (P:Program)(f:FuncId)(args:List (PV×Bool))(r:PV):Prop :=
 ∀ (w:World) (cargs:Array Value) (ok:Nat->Prop) (H:Nat->List Nat),DArgs w.heap ok H args cargs.toList 0->(∀ k,(H k).Nodup/\∀ b∈H k,¬ok b/\gA w b)->(∀ k k' b,b∈H k->b∈H k'->k=k')->
  Calls P f cargs w fun e w'=>∃ c B,e=.returned c/\Below w.heap.size w w'/\RelV w'.heap dead r c B/\B.Nodup/\∀ b∈B,gA w' b/\(w.heap.size<=b\/∃ k,b∈H k)
theorem DArgs.get {h:Array Obj}{ok:Nat->Prop}{H:Nat->List Nat}:∀ {ps:List (PV×Bool)} {cs:List Value} {k0:Nat},DArgs h ok H ps cs k0->ps.length=cs.length/\∀ k p dp,ps[k]?=some (p,dp)->∃ B,RelV h dead p (cs.getD k undef) B/\(dp=false->∀ b∈B,ok b)/\(dp=true->B=H (k0+k))
 | [],[],_,_=>⟨rfl,fun k p dp h=>by simp at h⟩
 | (p,false)::ps,c::cs,k0,h=>by
  obtain⟨⟨B,h1,h2⟩,h3⟩:=h
  obtain⟨g1,g2⟩:=DArgs.get h3
  refine⟨by simp[g1],fun k p' dp hk=>?_⟩
  cases k with
  | zero=>simp at hk;obtain⟨rfl,rfl⟩:=hk;exact⟨B,by simpa using h1,fun _=>h2,fun h=>by cases h⟩
  | succ k=>obtain⟨B',q1,q2,q3⟩:=g2 k p' dp (by simpa using hk);exact⟨B',by simpa using q1,q2,fun h=>by rw[q3 h];congr 1;omega⟩
 | (p,true)::ps,c::cs,k0,h=>by
  obtain⟨h1,h3⟩:=h
  obtain⟨g1,g2⟩:=DArgs.get h3
  refine⟨by simp[g1],fun k p' dp hk=>?_⟩
  cases k with
  | zero=>simp at hk;obtain⟨rfl,rfl⟩:=hk;exact⟨H k0,by simpa using h1,(fun h=>by cases h),fun _=>rfl⟩
  | succ k=>obtain⟨B',q1,q2,q3⟩:=g2 k p' dp (by simpa using hk);exact⟨B',by simpa using q1,q2,fun h=>by rw[q3 h];congr 1;omega⟩
 | [],_::_,_,h=>h.elim
 | (_,false)::_,[],_,h=>h.elim
 | (_,true)::_,[],_,h=>h.elim
/- The engine, part GG: functions that write all that an own value holds. -/
open Go.RowKit (Below)
theorem aQS {w:World}{b:Nat}(h:gA w b):b<w.heap.size:=by
 obtain⟨cs,t,g⟩:=h
 rcases aVA b w.heap.size with h | h
 · exact h
 · simp[aVd h]at g
def slp:PV->PV
 | .was v _=>.sc v
 | p=>p
def stp:PV->PV
 | .was _ p=>p
 | p=>p
def rew:List PV->List PV->List PV
 | .was v _::ws,p::ps=>.was v p::rew ws ps
 | _::ws,p::ps=>p::rew ws ps
 | _,_=>[]
def aEH:List PV->Bool
 | []=>true
 | .was _ _::r=>aEH r
 | _=>false
inductive MCut:List PV->PV->PV->PV->List PV->Prop
 | one {v:Value} {p p':PV}:MCut [.was v p] (.sc v) p p' [.was v p']
 | agg {ws ns:List PV}:aEH ws=true->Nat.beq ns.length ws.length=true->MCut ws (.agg (ws.map slp)) (.agg (ws.map stp)) (.agg ns) (rew ws ns)
section
variable {P:Program}{N:Nat}{Γ:Ctx P N}{S:List (Nat×Slot)}{O:List (Nat×Option Ob)}{ow:Nat->Own}{β:Nat->Option (Option Nat)}{F:Env}{a:Act}{w:World}
theorem Soft.was {v:Value}{p:PV}:Soft (.was v p) p:=by
 intro h β c B H
 simp only[RelV]at H
 exact H.2
variable {d:Nat}{ty:TypeId}{pos:String}{af:Array Edge}{g:Option (Nat×Bool)}
end
/- The engine, part HH: cells made known, values forgotten; functions that write what a struct holds. -/
open Go.RowKit (Below)
def Forg (p p':PV):Prop:=∀ (h:Array Obj) (β:Nat->Option (Option Nat)) (c:Value) (B:List Nat),RelV h β p c B->RelV h β p' c []
theorem Forg.was {v:Value}{p:PV}:Forg (.was v p) (.sc v):=by
 intro h β c B H
 simp only[RelV]at H ⊢
 exact⟨H.1,trivial⟩
theorem aRy {h:Array Obj}{q:Bool}{β:Nat->Option (Option Nat)}:∀ {ws:List PV} {cs:Array Value} {i:Nat} {O:List Nat},aEH ws=true->RelL h q β ws cs i O->RelL h q β (ws.map slp) cs i []
 | [],_,_,_,_,_=>by simp[RelL]
 | p::ws,cs,i,O,ha,H=>by
  cases p with
  | was v p =>
   simp only[aUH,slp,RelL,RelV]at H ⊢
   obtain⟨c,O1,O2,h1,h2,h3,_⟩:=H
   exact⟨c,[],[],h1,⟨h2.1,rfl⟩,aRy (by simpa [aEH]using ha) h3,rfl⟩
  | _=>simp[aEH]at ha
theorem Forg.agg {ws:List PV}(ha:aEH ws=true):Forg (.agg ws) (.agg (ws.map slp)):=by
 intro h β c B H
 simp only[RelV]at H ⊢
 obtain⟨cs,h1,h2,h3⟩:=H
 exact⟨cs,h1,by simpa using h2,aRy ha h3⟩
section
variable {P:Program}{N:Nat}{Γ:Ctx P N}{S:List (Nat×Slot)}{O:List (Nat×Option Ob)}{ow:Nat->Own}{β:Nat->Option (Option Nat)}{F:Env}{a:Act}{w:World}
theorem SimG.recell (h:SimG Γ ow β ⟨S,O⟩ a w){l:Nat}{cells cells':List PV}{dp bx:Bool}(ho:loq O l=some ⟨cells,dp,bx⟩)(hne:cells≠[])
 (hr:∀ cs B,RelL w.heap true (if bx then β else dead) cells cs 0 B->RelL w.heap true (if bx then β else dead) cells' cs 0 B):SimG Γ ow β ⟨S,(l,some ⟨cells',dp,bx⟩)::O⟩ a w:=by
 have ho':lo (Env.mk S O).o l=some ⟨cells,dp,bx⟩:=by rw[<- dA];exact ho
 refine { size:=h.size,defers:=h.defers,kept:=h.kept,slots:=h.slots,objs:=fun m ob hm=>?_,gone:=fun m hm=>?_,own:=h.own,ios:=fun m b hm hs=>?_,fresh:=h.fresh }
 · simp only[aT]at hm
   by_cases hml:l=m
   · subst hml
     rw[aUs rfl]at hm;cases hm
     obtain⟨B,o1,o2,o3⟩:=h.objs l _ ho'
     refine⟨B,o1,o2,?_⟩
     rcases o3 with⟨_,e2,_⟩ | ⟨b,cs,t,e1,e2,e3,e4⟩
     · exact absurd e2 hne
     · exact .inr ⟨b,cs,t,e1,e2,e3,hr _ _ e4⟩
   · rw[aUq hml]at hm;exact h.objs m ob hm
 · simp only[aT]at hm
   by_cases hml:l=m
   · rw[aUs hml]at hm;cases hm
   · rw[aUq hml]at hm;exact h.gone m hm
 · simp only[aT]at hs
   by_cases hml:l=m
   · subst hml;exact h.ios l b hm (by rw[ho'];rfl)
   · rw[aUq hml]at hs;exact h.ios m b hm hs
def RetM (Γ:Ctx P N)(rs:Array ResultVar)(E:Env)(k':Value)(ws:List PV):Prop :=
 RetIs Γ rs E (.sc k') true/\∀ a w,Sim Γ E a w->∃ E' l,Sim Γ E' a w/\lo E'.o l=some ⟨ws,true,false⟩
theorem RetM.mk {rs:Array ResultVar}{k':Value}{ws:List PV}(l:Nat)(h:RetIs Γ rs ⟨S,O⟩ (.sc k') true)(ho:loq O l=some ⟨ws,true,false⟩):RetM Γ rs ⟨S,O⟩ k' ws:=⟨h,fun _ _ hs=>⟨_,l,hs,by rw[<- dA];exact ho⟩⟩
end
section
variable {α β:Type}
end
/- The engine, part II: laws that write what they have made: parameters that sleep. -/
open Go.RowKit (Below)
section
variable {P:Program}{N:Nat}{Γ:Ctx P N}{S:List (Nat×Slot)}{O:List (Nat×Option Ob)}{ow:Nat->Own}{β:Nat->Option (Option Nat)}{F:Env}{a:Act}{w:World}
def OldL (Γ:Ctx P N):List Value->List PV->Prop
 | v::vs,p::ps=>aSK Γ v p/\OldL Γ vs ps
 | [],[]=>True
 | _,_=>False
theorem OldL.of {Γ:Ctx P N}(hB:∀ b,Γ.ok b->b<Γ.base->True):∀ {ps:List PV} {vs:List Value} {cs:Array Value} {i:Nat} {B:List Nat},vs.length=ps.length->(∀ k,k<vs.length->cs[i+k]?=vs[k]?)->qB ps=true->RelL Γ.w0.heap true dead ps cs i B->(∀ b∈B,Γ.ok b/\b<Γ.base/\(¬Γ.mine b/\¬Γ.lent b)/\∀ l,Γ.io l≠some b)->OldL Γ vs ps
 | [],[],_,_,_,_,_,_,_,_=>trivial
 | p::ps,v::vs,cs,i,B,hl,hk,hn,H,hb=>by
  simp only[RelL]at H
  obtain⟨c,O1,O2,h1,h2,h3,rfl⟩:=H
  have h0:=hk 0 (by simp)
  simp only[aVh,List.getElem?_cons_zero]at h0
  rw[h1.1]at h0;injection h0 with h0
  subst h0
  refine⟨⟨qA hn p (by simp),O1,h2,fun b hb'=>hb b (by simp[hb'])⟩,?_⟩
  refine OldL.of hB (by simpa using hl) (fun k hk'=>?_) ?_ h3 (fun b hb'=>hb b (by simp[hb']))
  · have:=hk (k+1) (by simpa using hk')
    rw[show i+1+k=i+(k+1)by omega,this];simp
  · simp only[qB,aUP]at hn;exact hn.2
 | [],_::_,_,_,_,hl,_,_,_,_=>by simp at hl
 | _::_,[],_,_,_,hl,_,_,_,_=>by simp at hl
end
/- The engine, part JJ: rows that become values as they are made. -/
open Go.RowKit (Below)
section
variable {P:Program}{N:Nat}{Γ:Ctx P N}{S:List (Nat×Slot)}{O:List (Nat×Option Ob)}{ow:Nat->Own}{β:Nat->Option (Option Nat)}{F:Env}{a:Act}{w:World}
theorem Ent.freezeW {k l s n:Nat}{cells:List PV}{dp dp0:Bool}(hk:lkq S k=some ⟨.ref l s 0 n,dp0⟩)(ho:loq O l=some ⟨cells,dp,false⟩)(hio:Γ.io l=none)(hN:Nat.blt k N=true) :
 Ent Γ ⟨S,O⟩ ⟨(k,⟨.rw s n cells,dp⟩)::S,(l,none)::O⟩:=by
 rintro a w ⟨ow,β,h⟩
 obtain⟨B,h1,_,_⟩:=h.slots k
 rw[gH hk]at h1
 simp only[RelV]at h1
 have ho':lo (Env.mk S O).o l=some ⟨cells,dp,false⟩:=by rw[<- dA];exact ho
 obtain⟨Bo,o1,o2,hob⟩:=h.objs l _ ho'
 have hkN:=(aR _ _).1 hN
 rcases hob with⟨p1,p2,p3⟩ | ⟨b,cs,t,p1,p2,p3,p4⟩
 · obtain⟨rfl,_,e⟩:=h1.2.1 p1
   simp only at p2;subst p2;subst p3
   obtain⟨ow',h'⟩:=h.toSlot ho' hio hkN (v:=.rw s 0 []) (c:=a.tmps.getD k undef) (B:=[]) (dp:=dp) (by simp only[RelV];exact .inl ⟨trivial,trivial,trivial,e⟩) (by simp) (by simp) rfl
   rw[aDx]at h'
   exact⟨_,_,h'⟩
 · obtain⟨cap,cs',t',q1,q2,q3,q4⟩:=h1.2.2 b p1
   simp only[aWI]at q1
   rw[p3]at q2;cases q2
   obtain⟨ow',h'⟩:=h.toSlot ho' hio hkN (v:=.rw s n cells) (c:=a.tmps.getD k undef) (B:=b::Bo) (dp:=dp) (by
    simp only[RelV];exact .inr ⟨b,cap,cs,t,Bo,⟨q1,q4,by simpa using q3⟩,p3,p4,rfl⟩) (fun c hc=>by
    rcases aUr.1 hc with rfl | hc
    · exact .inr p2
    · exact .inl (o1 c hc)) (fun hx=>by
    obtain⟨e1,e2⟩:=o2 hx
    refine⟨aUL.2 ⟨fun hb=>(by have:=(e2 b hb).1;rw[p2]at this;cases this),e1⟩,fun c hc=>?_⟩
    rcases aUr.1 hc with rfl | hc
    · exact⟨.inr p2,_,_,p3⟩
    · exact⟨.inl (e2 c hc).1,(e2 c hc).2⟩) rfl
   rw[aDx]at h'
   exact⟨_,_,h'⟩
theorem aMK {s S:List (Nat×Slot)}{k:Nat}{v:Slot}(h:lkq s k=some v):lkq (s++S) k=some v:=by
 induction s with
 | nil=>cases h
 | cons x r ih =>
  obtain⟨j,u⟩:=x
  simp only[lkq,aUB]at h ⊢
  cases hb:Nat.beq j k with
  | true=>rw[hb]at h;exact h
  | false=>rw[hb]at h;exact ih h
theorem aMJ {s S:List (Nat×Option Ob)}{k:Nat}{v:Ob}(h:loq s k=some v):loq (s++S) k=some v:=by
 induction s with
 | nil=>cases h
 | cons x r ih =>
  obtain⟨j,u⟩:=x
  simp only[loq,aUB]at h ⊢
  cases hb:Nat.beq j k with
  | true=>rw[hb]at h;exact h
  | false=>rw[hb]at h;exact ih h
theorem Local.frz {o:Oper}{ss:List (Nat×Slot)}{us:List (Nat×Option Ob)}{rs ro nl:List Nat}(k:Nat){l s n:Nat}{cells:List PV}{dp dp0:Bool}(h:Local Γ o ⟨S,O⟩ ⟨ss,us⟩ rs ro nl)(hk:lkq ss k=some ⟨.ref l s 0 n,dp0⟩)(ho:loq us l=some ⟨cells,dp,false⟩)
 (hio:Γ.io l=none) (hN:Nat.blt k N=true):Local Γ o ⟨S,O⟩ ⟨(k,⟨.rw s n cells,dp⟩)::ss,(l,none)::us⟩ rs ro nl:=by
 intro F h1 h2 h3 a w hsim Q
 exact Oper.wp_mono (fun a' w' h'=>Ent.freezeW (aMK hk) (aMJ ho) hio hN a' w' h') (h F h1 h2 h3 a w hsim Q)
theorem Local.frzS {o:Oper}{ss:List (Nat×Slot)}{us:List (Nat×Option Ob)}{rs ro nl:List Nat}(k:Nat){l s n:Nat}{cells:List PV}{dp dp0:Bool}(h:Local Γ o ⟨S,O⟩ ⟨ss,us⟩ rs ro nl)(hk:lkq ss k=some ⟨.ref l s 0 n,dp0⟩)(ho:loq us l=some ⟨cells,dp,false⟩)
 (hio:Γ.io l=none) (hN:Nat.blt k N=true):Local Γ o ⟨S,O⟩ ⟨(k,⟨.sl n cells,dp⟩)::ss,(l,none)::us⟩ rs ro nl:=by
 intro F h1 h2 h3 a w hsim Q
 exact Oper.wp_mono (fun a' w' h'=>aXR (aMK hk) (aMJ ho) hio hN a' w' h') (h F h1 h2 h3 a w hsim Q)
end
/- The engine, part KK: a law's rest, begun anew: what there is by then is old. -/
open Go.RowKit (Below)
section
variable {P:Program}{N:Nat}{Γ:Ctx P N}{S:List (Nat×Slot)}{O:List (Nat×Option Ob)}
end
/- The engine, part LL: rows that grow within a struct. -/
open Go.RowKit (Below)
section
variable {P:Program}{N:Nat}{Γ:Ctx P N}{S:List (Nat×Slot)}{O:List (Nat×Option Ob)}
theorem Ent.nilCell (l L c s:Nat){cells:List PV}{dp:Bool}(ho:loq O l=some ⟨cells,dp,true⟩)(hc:cells[c]?=some (.sc (.slice none 0 0)))(hL:uQ ⟨S,O⟩ L=false)(hne:Nat.beq l L=false)(hio:Γ.io L=none) :
 Ent Γ ⟨S,O⟩ ⟨S,(l,some ⟨cells.set c (.ref L s 0 0),dp,true⟩)::(L,some ⟨[],true,false⟩)::O⟩:=by
 rintro a w ⟨ow,β,h⟩
 have hnl:=NoLab.of_says hL
 have hne:L≠l:=by rintro rfl;simp at hne
 obtain⟨ow',h'⟩:=h.layNil hnl hio [] [] true false
 have h2:SimG Γ ow' (fun m=>if m=L then some none else if m∈([]:List Nat)then none else β m) ⟨S,(L,some ⟨[],true,false⟩)::O⟩ a w:=h'.congr (fun _=>rfl) (fun _=>rfl)
 have ho2:loq ((L,some ⟨[],true,false⟩)::O) l=some ⟨cells,dp,true⟩:=by
  simp only[loq,rJ,hne,aVZ,cond_false];exact ho
 refine⟨ow',_,h2.recell ho2 (by rintro rfl;simp at hc) fun cs B H=>?_⟩
 simp only[aUK]at H ⊢
 obtain⟨v,O1,Oc,O2,q1,q2,q3,q4,q5,rfl⟩:=H.at hc
 simp only[RelV]at q3
 obtain⟨q3,rfl⟩:=q3
 exact RelL.put hc q1 q2 (by simp only[RelV,aUK];exact⟨trivial,fun _=>⟨trivial,trivial,q3⟩,fun b e=>by simp at e⟩) q4 q5
theorem Ent.packS (l L c:Nat){s n:Nat}{cells cs':List PV}{dl dL:Bool}(ho:loq O l=some ⟨cells,dl,true⟩)(hL:loq O L=some ⟨cs',dL,false⟩)(hc:cells[c]?=some (.ref L s 0 n))(hne:Nat.beq l L=false)(hio:Γ.io L=none) :
 Ent Γ ⟨S,O⟩ ⟨S,(L,none)::(l,some ⟨cells.set c (.sl n cs'),false,true⟩)::O⟩:=by
 classical
 rintro a w ⟨ow,β,h⟩
 have hne:l≠L:=by rintro rfl;simp at hne
 have ho':lo (Env.mk S O).o l=some ⟨cells,dl,true⟩:=by rw[<- dA];exact ho
 have hL':lo (Env.mk S O).o L=some ⟨cs',dL,false⟩:=by rw[<- dA];exact hL
 obtain⟨Ol,o1,o2,o3⟩:=h.objs l _ ho'
 obtain⟨OL,u1,u2,u3⟩:=h.objs L _ hL'
 rcases o3 with⟨_,e,_⟩ | ⟨b0,cs,t,p1,p2,p3,p4⟩
 · simp only at e;subst e;simp at hc
 simp only[aUK]at p4
 obtain⟨v,O1,Oc,O2,q1,q2,q3,q4,q5,rfl⟩:=p4.at hc
 simp only[RelV]at q3
 obtain⟨rfl,q3n,q3s⟩:=q3
 have hrow:∃ (o:Option Nat),β L=some o/\RelV w.heap dead (.sl n cs') v (o.toList++OL)/\∀ b,o=some b->ow b=.lab L/\b<w.heap.size/\Γ.nw b:=by
  rcases u3 with⟨e1,e2,e3⟩ | ⟨b,cs2,t2,e1,e2,e3,e4⟩
  · refine⟨none,e1,?_,by simp⟩
    obtain⟨g1,g2,g3⟩:=q3n e1
    simp only at e2;subst e2;subst e3
    simp only[RelV]
    exact .inl ⟨g1,trivial,by simp,none,0,g3⟩
  · refine⟨some b,e1,?_,fun b' e=>by cases e;exact⟨e2,h.block_lt e1,.inl (h.fresh L b e1 hio)⟩⟩
    obtain⟨cap,cs3,t3,g1,g2,g3,g4⟩:=q3s b e1
    rw[e3]at g2;cases g2
    simp only[RelV]
    exact .inr ⟨b,0,cap,cs2,t2,(0,0),OL,⟨by simpa using g1,g4⟩,e3,by simpa using e4,by simp⟩
 obtain⟨o,hβo,hrel,hob⟩:=hrow
 let ow':Nat->Own:=fun b=>match ow b with
  | .lab m=>if m=L then .none else .lab m
  | .obj m=>if m=L then .none else .obj m
  | x=>x
 let β':Nat->Option (Option Nat):=fun m=>if m=L then none else β m
 have hβ':∀ m,m≠L->β' m=β m:=fun m hm=>by show(if _ then _ else _)=_;rw[aUq hm]
 have hβ'L:β' L=none:=by show(if _ then _ else _)=_;rw[aUs rfl]
 have hlab:∀ b m,ow' b=.lab m->ow b=.lab m/\m≠L:=by
  intro b m e
  have e:(match ow b with | .lab m=>if m=L then Own.none else .lab m | .obj m=>if m=L then .none else .obj m | x=>x)=.lab m:=e
  cases hx:ow b with
  | lab m' =>
   rw[hx]at e;simp only at e
   split at e
   · cases e
   · rename_i hm;cases e;exact⟨rfl,hm⟩
  | obj m'=>rw[hx]at e;simp only at e;split at e <;> cases e
  | slot k=>rw[hx]at e;cases e
  | none=>rw[hx]at e;cases e
 have hkeepow:∀ b x,ow b=x->x≠.lab L->x≠.obj L->ow' b=x:=by
  intro b x e h1 h2
  show(match ow b with | .lab m=>if m=L then Own.none else .lab m | .obj m=>if m=L then .none else .obj m | x=>x)=x
  rw[e]
  cases x with
  | lab m=>simp only;rw[aUq (fun e=>h1 (by rw[e]))]
  | obj m=>simp only;rw[aUq (fun e=>h2 (by rw[e]))]
  | slot k=>rfl
  | none=>rfl
 have hIm:∀ b,Im Γ ow w b->Im Γ ow' w b:=fun b ⟨h1,h2,h3⟩=>⟨h1,h2,fun m e=>h3 m (hlab b m e).1⟩
 have hkeep:∀ m,KeepB w.heap w.heap β β' m:=by
  intro m ob e
  by_cases hm:m=L
  · rw[hm,hβ'L]at e;cases e
  · rw[hβ' m hm]at e;exact⟨e,fun b _ c t hc=>⟨c,hc,rfl⟩⟩
 refine⟨ow',β',{ size:=h.size,defers:=h.defers,kept:=h.kept,slots:=fun k=>?_,objs:=fun m ob hm=>?_,gone:=fun m hm=>?_,own:=fun b hb=>?_,ios:=fun m b hm hs=>?_,fresh:=fun m b hm hi=>?_ }⟩
 · obtain⟨B,g1,g2,g3⟩:=h.slots k
   exact⟨B,aXt _ _ _ (fun m _=>hkeep m) (fun _ _=>rfl) g1,fun b hb=>hIm b (g2 b hb),fun hd=>⟨(g3 hd).1,fun b hb=>⟨hkeepow b _ ((g3 hd).2 b hb).1 (by simp) (by simp),((g3 hd).2 b hb).2⟩⟩⟩
 · simp only[aT]at hm
   by_cases hmL:L=m
   · rw[aUs hmL]at hm;cases hm
   · rw[aUq hmL]at hm
     by_cases hml:l=m
     · subst hml
       rw[aUs rfl]at hm;cases hm
       refine⟨O1++((o.toList++OL)++O2),fun b hb=>?_,(fun h=>by cases h),.inr ⟨b0,cs,t,by rw[hβ' l hne];exact p1,hkeepow b0 _ p2 (fun e=>by injection e with e;exact hne e) (by simp),p3,?_⟩⟩
       · simp only[aUz]at hb
         rcases hb with hb | (hb | hb) | hb
         · exact hIm b (o1 b (by simp[hb]))
         · have e:o=some b:=by simpa using hb
           obtain⟨g1,g2,g3⟩:=hob b e
           refine⟨g2,.inr g3,fun m e'=>?_⟩
           obtain⟨e1,e2⟩:=hlab b m e'
           rw[g1]at e1;injection e1 with e1;exact e2 e1.symm
         · exact hIm b (u1 b hb)
         · exact hIm b (o1 b (by simp[hb]))
       · simp only[aUK]
         refine RelL.put hc q1 q2 (aXM rfl hrel) ?_ ?_
         · exact aXr _ _ _ _ (fun _ _ m _=>hkeep m) (fun _ _=>rfl) q4
         · exact aXr _ _ _ _ (fun _ _ m _=>hkeep m) (fun _ _=>rfl) q5
     · rw[aUq hml]at hm
       obtain⟨B,g1,g2,g3⟩:=h.objs m ob hm
       refine⟨B,fun b hb=>hIm b (g1 b hb),fun hd=>⟨(g2 hd).1,fun b hb=>⟨hkeepow b _ ((g2 hd).2 b hb).1 (by simp) (fun e=>by injection e with e;exact hmL e.symm),((g2 hd).2 b hb).2⟩⟩,?_⟩
       rcases g3 with⟨e1,e2,e3⟩ | ⟨b,c1,t1,e1,e2,e3,e4⟩
       · exact .inl ⟨by rw[hβ' m (fun e=>hmL e.symm)];exact e1,e2,e3⟩
       · refine .inr ⟨b,c1,t1,by rw[hβ' m (fun e=>hmL e.symm)];exact e1,hkeepow b _ e2 (fun e=>by injection e with e;exact hmL e.symm) (by simp),e3,?_⟩
         cases hbb:ob.box with
         | false=>rw[hbb]at e4;exact e4
         | true=>rw[hbb]at e4;exact aXr _ _ _ _ (fun _ _ m' _=>hkeep m') (fun _ _=>rfl) e4
 · simp only[aT]at hm
   by_cases hmL:L=m
   · rw[<- hmL];exact hβ'L
   · rw[aUq hmL]at hm
     by_cases hml:l=m
     · rw[aUs hml]at hm;cases hm
     · rw[aUq hml]at hm;rw[hβ' m (fun e=>hmL e.symm)];exact h.gone m hm
 · have hb0:ow b≠.none:=by
    intro e;apply hb
    show(match ow b with | .lab m=>if m=L then Own.none else .lab m | .obj m=>if m=L then .none else .obj m | x=>x)=_
    rw[e]
   obtain⟨g1,g2⟩:=h.own b hb0
   refine⟨g1,g2.imp id fun⟨m,g3,g4⟩=>⟨m,hkeepow b _ g3 (fun e=>by injection e with e;subst e;rw[hio]at g4;cases g4) (by simp),g4⟩⟩
 · have hmL:m≠L:=fun e=>by rw[e,hio]at hm;cases hm
   rw[hβ' m hmL]
   refine h.ios m b hm ?_
   simp only[aT]at hs
   rw[aUq (fun e=>hmL e.symm)]at hs
   by_cases hml:l=m
   · subst hml;rw[ho'];rfl
   · rw[aUq hml]at hs;exact hs
 · by_cases hmL:m=L
   · subst hmL;rw[hβ'L]at hm;cases hm
   · rw[hβ' m hmL]at hm;exact h.fresh m b hm hi
theorem Ent.relenO (l c:Nat){L s0 n n':Nat}{cells:List PV}{dp bx:Bool}(ho:loq O l=some ⟨cells,dp,bx⟩)(hc:cells[c]?=some (.ref L s0 0 n))(hn:n=n'):Ent Γ ⟨S,O⟩ ⟨S,(l,some ⟨cells.set c (.ref L s0 0 n'),dp,bx⟩)::O⟩:=by
 subst hn
 have e:cells.set c (.ref L s0 0 n)=cells:=by
  have hl:=(aVf.1 hc)
  rw[<- hl.2];exact List.set_getElem_self hl.1
 rw[e]
 exact aXp ho (aXf _)
end
/- The engine, part MM: values handed over for good. -/
open Go.RowKit (Below)
def aCx:List (PV×Bool)->Nat->List (Nat×Slot)
 | [],_=>[]
 | (p,dp)::r,k=>(k,⟨p,dp⟩)::aCx r (k+1)
theorem aG4:∀ (ps:List (PV×Bool)) (i k:Nat),lk (aCx ps i) k=if i<=k/\k-i<ps.length then⟨(ps.getD (k-i) (.any,false)).1,(ps.getD (k-i) (.any,false)).2⟩else⟨.any,false⟩
 | [],i,k=>by simp[aCx,lk]
 | (p,dp)::r,i,k=>by
  rw[aCx,gI,aG4 r (i+1) k]
  by_cases h:i=k
  · subst h;simp
  · rw[aUq h]
    by_cases h2:i+1<=k/\k-(i+1)<r.length
    · rw[aUs h2,aUs (by simp;omega)]
      have:k-i=(k-(i+1))+1:=by omega
      rw[this];simp
    · rw[aUq h2,aUq (by simp;omega)]
theorem MeetsD.intro {P:Program}{N:Nat}{f:FuncId}{fn:Func}{c:Code}{args:List (PV×Bool)}{r:PV}{rs:Array ResultVar}(hf:P.funcs[f]?=some fn)(hb:fn.body=some c)(hN:fn.ntmps=N)(hrs:fn.results=rs)(hn:Nat.ble args.length N=true)
 (h:∀ Γ:Ctx P N,(∀ l,Nat.blt l 100000=true->Γ.io l=none)->CodeT Γ c ⟨aCx args 0,[]⟩ (ends Γ rs r true)):MeetsD P f args r:=by
 classical
 intro w cargs ok H ha hH hdis
 obtain⟨h1,h2⟩:=ha.get
 have hn:=aUZ hn
 let Γ:Ctx P N:={ base:=w.heap.size,ok:=ok,io:=fun _=>none,w0:=w,mine:=fun _=>False,lent:=fun b=>∃ k,b∈H k }
 have hsz:(cargs++Array.replicate (fn.ntmps-cargs.size) undef).size=N:=by
  have:cargs.size=args.length:=by rw[h1];simp
  simp[this,hN];omega
 refine calls_of_wp hf hb ?_
 let ow:Nat->Own:=fun b=>if hh:∃ k,b∈H k then .slot hh.choose else .none
 have how:∀ b k,b∈H k->ow b=.slot k:=by
  intro b k e
  have hh:∃ k,b∈H k:=⟨k,e⟩
  show(if hh:_ then _ else _)=_
  rw[aWD hh,hdis _ _ b hh.choose_spec e]
 have hnl:∀ b l,ow b≠.lab l:=by
  intro b l e
  have e:(if hh:∃ k,b∈H k then Own.slot hh.choose else .none)=.lab l:=e
  split at e <;> cases e
 have hsim:Sim Γ ⟨aCx args 0,[]⟩ { tmps:=cargs++Array.replicate (fn.ntmps-cargs.size) undef,defers:=[] } w:=by
  refine⟨ow,fun _=>none,{ size:=hsz,defers:=rfl,kept:=⟨rfl,rfl,rfl,aUI _,fun _ _ _ _=>rfl,fun b _ _ cs t h=>⟨cs,h,rfl⟩⟩,slots:=fun k=>?_,objs:=fun l ob hl=>(by simp[lo]at hl),gone:=fun _ _=>rfl,own:=fun b hb=>?_,ios:=fun l b hl=>(by cases hl),fresh:=fun l b hl=>(by cases hl) }⟩
  · rw[aG4]
    by_cases hk:k<args.length
    · rw[aUs ⟨aVk _,by simpa using hk⟩]
      have e1:args[k]?=some (args.getD k (.any,false)):=by
       rw[aUG hk,aUU,aUG hk];rfl
      obtain⟨B,g1,g2,g3⟩:=h2 k _ _ e1
      rw[aUR]at g3
      have e:(cargs++Array.replicate (fn.ntmps-cargs.size) undef).getD k undef=cargs.toList.getD k undef:=by
       have hlt:k<cargs.size:=by rw[h1]at hk;simpa using hk
       simp[aUV,aVF,hlt,aUU]
      simp only[aWt]
      refine⟨B,?_,fun b hb=>⟨aXA _ _ _ g1 b hb,?_,fun l=>hnl b l⟩,fun hd=>?_⟩
      · rw[e]
        exact aXt _ _ _ (fun l _=>by intro ob h;cases h) (fun _ _=>rfl) g1
      · cases hdp:(args.getD k (.any,false)).2 with
        | false=>exact .inl (g2 hdp b hb)
        | true=>exact .inr (.inr ⟨k,by rw[<- g3 hdp];exact hb⟩)
      · have g4:=g3 hd
        subst g4
        exact⟨(hH k).1,fun b hb=>⟨how b k hb,((hH k).2 b hb).2⟩⟩
    · rw[aUq (by simpa using hk)]
      exact⟨[],by simp[RelV],by simp,by simp⟩
  · have hh:∃ k,b∈H k:=by
     rcases aWq (∃ k,b∈H k)with hh | hh
     · exact hh
     · exfalso;apply hb;show(if hh:∃ k,b∈H k then Own.slot hh.choose else .none)=_;rw[aWE hh]
    obtain⟨k,hk⟩:=hh
    exact⟨aQS ((hH k).2 b hk).2,.inl (.inr ⟨k,hk⟩)⟩
 refine wp_mono (h Γ (fun _ _=>rfl) _ _ hsim) fun e a' w' ⟨E',hs',hq⟩=>?_
 have fin:RetIs Γ rs E' r true->a'.defers=[]/\∃ v,(results fn a'.tmps).run P w'=.ok v w'/\∃ c B,Ending.returned v=.returned c/\Below w.heap.size w w'/\RelV w'.heap dead r c B/\B.Nodup/\∀ b∈B,gA w' b/\(w.heap.size<=b\/∃ k,b∈H k):=by
  intro hr
  obtain⟨c,B,g1,g2,g3,g4⟩:=hr fn hrs a' w' hs'
  obtain⟨ow2,β2,hs'⟩:=hs'
  obtain⟨g5,g6⟩:=g4 rfl
  refine⟨hs'.defers,c,g1,c,B,rfl,⟨hs'.kept.os,hs'.kept.tape,hs'.kept.output,hs'.kept.size,fun k hk=>hs'.kept.old k hk (fun l=>by simp[Γ]) (fun h=>h)⟩,g2,g5,fun b hb=>⟨(g6 b hb).1,?_⟩⟩
  rcases(g6 b hb).2 with(g | g) | g
  · exact .inl g
  · exact g.elim
  · exact .inr g
 cases e with
 | normal=>exact fin hq
 | ret=>exact fin hq
 | exit id=>exact hq.elim
 | goto l=>exact hq.elim
 | panic ch=>exact hq.elim
 | outgrown=>exact hq.elim
section
variable {P:Program}{N:Nat}{Γ:Ctx P N}{S:List (Nat×Slot)}{O:List (Nat×Option Ob)}{ow:Nat->Own}{β:Nat->Option (Option Nat)}{F:Env}{a:Act}{w:World}
variable {d:Nat}{ty:TypeId}{pos:String}{af:Array Edge}{g:Option (Nat×Bool)}
theorem aG8 {f:FuncId}{xs:List Operand}{args:List (PV×Bool)}{k q:Nat}{p r:PV}{dp:Bool}(hsim:SimG Γ ow β F a w)(hk:lk F.s k=⟨p,true⟩)(hm:MeetsD P f args r)(hr:r.labs=[])(hd:d<N){Bk:List Nat}(o1:RelV w.heap β p (a.tmps.getD k undef) Bk)(o3:Bk.Nodup/\∀ b∈Bk,ow b=.slot k/\gA w b)
 (ha:DArgs w.heap (fun _=>False) (fun j=>if j=q then Bk else []) args (xs.map a.eval) 0) {Q:Exit->Act->World->Prop} :
 Calls P f (xs.map a.eval).toArray w fun e w'=>match e with | .returned c=>Sim Γ (F.app ⟨(d,⟨r,true⟩)::[k].map (fun j=>(j,⟨.any,false⟩)),[]⟩) (a.put (some d) c) w' | _=>False:=by
 obtain⟨n1,n2⟩:=o3
 refine(hm w (xs.map a.eval).toArray (fun _=>False) (fun j=>if j=q then Bk else []) (by simpa using ha) (fun j=>?_) (fun j j' b hb hb'=>?_)).mono fun e w' ⟨c,B,he,hbel,h1,h2,h3⟩=>?_
 · by_cases hj:j=q
   · rw[aUs hj];exact⟨n1,fun b hb=>⟨fun h=>h,(n2 b hb).2⟩⟩
   · rw[aUq hj];exact⟨by simp,by simp⟩
 · by_cases hj:j=q
   · by_cases hj':j'=q
     · rw[hj,hj']
     · simp only[aUq hj']at hb';cases hb'
   · simp only[aUq hj]at hb;cases hb
 · subst he
   have hg:=hsim.grow hbel
   have hB:∀ b∈B,Im Γ ow w' b:=by
    intro b hb
    have hlt:=aXA _ _ _ h1 b hb
    rcases(h3 b hb).2 with e | ⟨j,e⟩
    · exact⟨hlt,.inr (.inl (.inl (aUE hsim.kept.size e))),fun l e'=>by have:=(hsim.own b (by rw[e'];simp)).1;omega⟩
    · by_cases hj:j=q
      · rw[aUs hj]at e
        obtain⟨e1,e2⟩:=n2 b e
        refine⟨hlt,?_,fun l e'=>by rw[e1]at e';cases e'⟩
        rcases(hsim.own b (by rw[e1];simp)).2 with g | ⟨m,g,_⟩
        · exact .inr g
        · rw[e1]at g;cases g
      · rw[aUq hj]at e;cases e
   have hD:∀ b∈B,gA w' b/\Γ.nw b/\(ow b=.none\/∃ k'∈[k],ow b=.slot k'):=by
    intro b hb
    refine⟨(h3 b hb).1,?_⟩
    rcases(h3 b hb).2 with e | ⟨j,e⟩
    · refine⟨.inl (.inl (aUE hsim.kept.size e)),.inl ?_⟩
      cases hx:ow b with
      | none=>rfl
      | _=>have:=(hsim.own b (by rw[hx];simp)).1;omega
    · by_cases hj:j=q
      · rw[aUs hj]at e
        obtain⟨e1,_⟩:=n2 b e
        refine⟨?_,.inr ⟨k,by simp,e1⟩⟩
        rcases(hsim.own b (by rw[e1];simp)).2 with g | ⟨m,g,_⟩
        · exact g
        · rw[e1]at g;cases g
      · rw[aUq hj]at e;cases e
   obtain⟨ow',h'⟩:=hg.gather (d:=d) hd [k] (v:=r) (c:=c) (B:=B) (dp:=true) (aXM hr h1) hB (fun _=>⟨h2,hD⟩)
   exact⟨ow',β,h'⟩
theorem aQa {f:FuncId}[hfc:FnC P f]{k:Nat}{tus:Array TypeId}{p r:PV}(hk:lkq S k=some ⟨p,true⟩)(hl:p.labs=[])(hm:MeetsD P f [(p,true)] r)(hr:r.labs=[])(hd:Nat.blt d N=true) :
 Local Γ ⟨some d,.call ⟨.value (.func f),#[.tmp k],tus⟩,ty,pos,af,g⟩ ⟨S,O⟩ ⟨[(d,⟨r,true⟩),(k,⟨.any,false⟩)],[]⟩ [k] [] []:=by
 intro F hs _ _ a w ⟨ow,β,hsim⟩ Q
 have hkF:lk F.s k=⟨p,true⟩:=by rw[hs k (by simp),gH hk]
 obtain⟨Bk,o1,_,o3⟩:=hsim.slots k
 rw[hkF]at o1 o3
 unfold Oper.wp
 have hrun:(execOp a.eval ⟨some d,.call ⟨.value (.func f),#[.tmp k],tus⟩,ty,pos,af,g⟩).run P w=.ok (.enter f #[a.eval (.tmp k)]) w:=by
  simp[execOp,resolve,Act.eval,Deferred.ofValue,invoke,hfc.run]
 rw[hrun]
 show Calls _ _ _ _ _
 refine(aG8 (xs:=[.tmp k]) (q:=0) hsim hkF hm hr ((aR _ _).1 hd) (dp:=true) o1 (o3 rfl) ⟨?_,trivial⟩ (Q:=Q)).mono fun e w' h=>?_
 · simp only[aUK];exact aXM hl o1
 · cases e with
   | returned c=>exact h
   | _=>exact h.elim
theorem aP9 {f:FuncId}[hfc:FnC P f]{k:Nat}{y:Operand}{tus:Array TypeId}{p0 p r:PV}(hy:evq S y=some p0)(hn0:pE p0=true)(hl0:p0.labs=[])(hk:lkq S k=some ⟨p,true⟩)(hl:p.labs=[])(hm:MeetsD P f [(p0,false),(p,true)] r)(hr:r.labs=[])(hd:Nat.blt d N=true) :
 Local Γ ⟨some d,.call ⟨.value (.func f),#[y,.tmp k],tus⟩,ty,pos,af,g⟩ ⟨S,O⟩ ⟨[(d,⟨r,true⟩),(k,⟨.any,false⟩)],[]⟩ (ors y++[k]) [] []:=by
 intro F hs _ _ a w ⟨ow,β,hsim⟩ Q
 have hkF:lk F.s k=⟨p,true⟩:=by rw[hs k (by simp),gH hk]
 obtain⟨Bk,o1,_,o3⟩:=hsim.slots k
 rw[hkF]at o1 o3
 obtain⟨By,y1,y2⟩:=cK hsim hy (fun j hj=>hs j (by simp[hj]))
 have:=yI _ hn0 y1
 subst this
 unfold Oper.wp
 have hrun:(execOp a.eval ⟨some d,.call ⟨.value (.func f),#[y,.tmp k],tus⟩,ty,pos,af,g⟩).run P w=.ok (.enter f #[a.eval y,a.eval (.tmp k)]) w:=by
  simp[execOp,resolve,Act.eval,Deferred.ofValue,invoke,hfc.run]
 rw[hrun]
 show Calls _ _ _ _ _
 refine(aG8 (xs:=[y,.tmp k]) (q:=1) hsim hkF hm hr ((aR _ _).1 hd) (dp:=true) o1 (o3 rfl) ⟨⟨[],aXM hl0 y1,by simp⟩,?_,trivial⟩ (Q:=Q)).mono fun e w' h=>?_
 · simp only[aUR,aUK];exact aXM hl o1
 · cases e with
   | returned c=>exact h
   | _=>exact h.elim
theorem aTO {α:Type}{s:Nat}{hi:Option Operand}{t e n by_:Nat}{agg:Bool}{l r:List α}{enc:α->List PV}{j:Int}{len:Nat}[ht:SlT P t e][hi':TI P e n agg by_](hx:lkq S s=some ⟨.rw n len (l.flatMap enc),true⟩)(hlen:len=l.length)
 (hhi:wA S len hi=some j) (h:sub l 0 j=some r) (hsz:∀ y,(enc y).length=n) (hnl:∀ y,qB (enc y)=true) (hd:Nat.blt d N=true) :
 Local Γ ⟨some d,.slice t (.tmp s) none hi none,ty,pos,af,g⟩ ⟨S,O⟩ ⟨[(d,⟨.rw n r.length (r.flatMap enc),true⟩),(s,⟨.any,false⟩)],[]⟩ ([s]++aI0 hi) [] []:=by
 intro F hs _ _
 refine bE fun a w hsim0=>?_
 obtain⟨hb,hr⟩:=aTb h
 subst hlen
 have hbd:=fun isS cap hc=>aFW (lo:=none) (i:=0) hsim0 isS l.length cap hc rfl hhi (fun k hk=>by simp[aI0]at hk) (fun k hk=>hs k (by simp[hk])) hb
 obtain⟨ow,β,hsim⟩:=hsim0
 have hkF:lk F.s s=⟨.rw n l.length (l.flatMap enc),true⟩:=by rw[hs s (by simp),gH hx]
 obtain⟨B,h1,h2,h3⟩:=hsim.slots s
 rw[hkF]at h1 h3
 obtain⟨nd,h3⟩:=h3 rfl
 simp only[RelV]at h1
 have hr':r=l.take j.toNat:=by rw[hr];simp
 have run:∀ (ad:Option Addr) (cap:Nat),a.eval (.tmp s)=.slice ad l.length cap->l.length<=cap->(Instr.sliceAt t (a.eval (.tmp s)) none (hi.map a.eval) none).run P w=.ok (.slice (if cap=0 then ad else ad.map (·.add 0)) j.toNat cap) w:=by
  intro ad cap e1 hc
  rw[e1]
  have:=hbd true cap hc
  simp only[Option.map_none]at this
  simp[Instr.sliceAt,Instr.slice,run_underlying ht.ok,this,aFU (e:=e) (n:=n)]
 have hval:a.eval (.tmp s)=a.tmps.getD s undef:=rfl
 rcases h1 with⟨e0,_,_,e1⟩ | ⟨b,cap,cs,u,B',⟨e1,hc,hcap⟩,e2,e3,rfl⟩
 · rw[<- hval]at e1
   have e1':a.eval (.tmp s)=.slice none l.length 0:=by rw[e1,e0]
   have hj:j.toNat=0:=by omega
   have hr0:r=[]:=by rw[hr',hj];simp
   subst hr0
   obtain⟨ow',h'⟩:=hsim.gather (d:=d) ((aR _ _).1 hd) [s] (v:=.rw n 0 []) (c:=.slice none 0 0) (B:=[]) (dp:=true) (by simp only[RelV];exact .inl ⟨trivial,trivial,trivial,trivial⟩) (by simp) (fun _=>⟨by simp,by simp⟩)
   refine⟨.slice none 0 0,w,?_,ow',β,h'⟩
   simp only[execOp,Option.map_none]
   rw[Sem.run_bind,run none 0 e1' (by omega)]
   simp[hj,Result.andThen]
 · rw[<- hval]at e1
   have hsplit:l.flatMap enc=r.flatMap enc++(l.drop j.toNat).flatMap enc:=by rw[hr',<- aWu,aVs]
   rw[hsplit]at e3
   obtain⟨O1,O2,q1,q2,rfl⟩:=(aXE _ _ _ _ _).1 e3
   have nd1:=aUL.1 nd
   have nd2:=aUQ.1 nd1.2
   have hrl:r.length=j.toNat:=by rw[hr',aVp];omega
   obtain⟨ow',h'⟩:=hsim.gather (d:=d) ((aR _ _).1 hd) [s] (v:=.rw n r.length (r.flatMap enc)) (c:=.slice (some ⟨b,0,none⟩) r.length cap) (B:=b::O1) (dp:=true) (by
    simp only[RelV];exact .inr ⟨b,cap,cs,u,O1,⟨rfl,by omega,hcap⟩,e2,q1,rfl⟩)
    (fun c hc=>h2 c (by rcases aUr.1 hc with rfl | hc;simp;simp[hc]))
    (fun _=>⟨aUL.2 ⟨fun hb'=>nd1.1 (by simp[hb']),nd2.1⟩,fun c hc=>by
     have hm:c∈b::(O1++O2):=by rcases aUr.1 hc with rfl | hc;simp;simp[hc]
     obtain⟨g1,g2⟩:=h3 c hm
     refine⟨g2,?_,.inr ⟨s,by simp,g1⟩⟩
     rcases(hsim.own c (by rw[g1];simp)).2 with g | ⟨m,g,_⟩
     · exact g
     · rw[g1]at g;cases g⟩)
   refine⟨.slice (some ⟨b,0,none⟩) r.length cap,w,?_,ow',β,h'⟩
   simp only[execOp,Option.map_none]
   rw[Sem.run_bind,run (some ⟨b,0,none⟩) cap e1 hc,hrl]
   simp[Result.andThen,Addr.add]
theorem RelL.atQ {h:Array Obj}{q:Bool}{β:Nat->Option (Option Nat)}:∀ {vs:List PV} {cs:Array Value} {i:Nat} {O:List Nat} {k:Nat} {p:PV},RelL h q β vs cs i O->vs[k]?=some p->∃ v O1 Oc O2,cs[i+k]?=some v/\RelV h β p v Oc/\O=O1++(Oc++O2)/\RelL h q β (vs.set k .any) cs i (O1++O2)
 | [],_,_,_,_,_,_,hk=>by simp at hk
 | p0::vs,cs,i,O,k,p,H,hk=>by
  simp only[RelL]at H
  obtain⟨c,B1,B2,h1,h2,h3,rfl⟩:=H
  cases k with
  | zero =>
   simp at hk;subst hk
   refine⟨c,[],B1,B2,by simpa using h1.1,h2,by simp,?_⟩
   simp only[List.set_cons_zero,RelL,RelV,aUx]
   exact⟨c,[],B2,h1,rfl,h3,rfl⟩
  | succ k =>
   obtain⟨v,O1,Oc,O2,g1,g2,g3,g4⟩:=RelL.atQ h3 (by simpa using hk)
   refine⟨v,B1++O1,Oc,O2,by rw[<- g1];congr 1;omega,g2,by rw[g3];simp,?_⟩
   simp only[List.set_cons_succ,RelL]
   exact⟨c,B1,O1++O2,h1,h2,g4,by simp⟩
theorem aSY {s i:Nat}{vs:List PV}{p:PV}(hx:lkq S s=some ⟨.tup vs,true⟩)(hp:vs[i]?=some p)(hl:p.labs=[])(hne:Nat.beq s d=false)(hd:Nat.blt d N=true) :
 Local Γ ⟨some d,.extract (.tmp s) i,ty,pos,af,g⟩ ⟨S,O⟩ ⟨[(d,⟨p,true⟩),(s,⟨.tup (vs.set i .any),true⟩)],[]⟩ [s] [] []:=by
 classical
 intro F hs _ _
 refine bE fun a w ⟨ow,β,h⟩=>?_
 have hne:s≠d:=by rintro rfl;simp at hne
 have hdN:=(aR _ _).1 hd
 obtain⟨O0,hv,hO,hdp⟩:=h.slots s
 rw[hs s (by simp),gH hx]at hv hdp
 obtain⟨nd,hdp⟩:=hdp rfl
 simp only[RelV]at hv
 obtain⟨cs,e1,e2,e3⟩:=hv
 obtain⟨v,O1,Oc,O2,g1,g2,rfl,g4⟩:=e3.atQ hp
 rw[aUR]at g1
 have nd1:=aUQ.1 nd
 have nd2:=aUQ.1 nd1.2.1
 let ow':Nat->Own:=fun b=>if b∈Oc then .slot d else ow b
 have hIm:∀ b,Im Γ ow w b->Im Γ ow' w b:=by
  intro b ⟨h1,h2,h3⟩
  refine⟨h1,h2,fun l=>?_⟩
  show(if _ then _ else _)≠_
  split
  · simp
  · exact h3 l
 have hoc:∀ b∈Oc,ow b=.slot s:=fun b hb=>(hdp b (by simp[hb])).1
 have hkp:∀ b x,ow b=x->x≠.slot s->ow' b=x:=by
  intro b x e hx
  show(if _ then _ else _)=_
  rw[aUq (fun hb=>hx (by rw[<- e];exact hoc b hb))];exact e
 have hval:a.eval (.tmp s)=.tuple cs:=e1
 refine⟨v,w,by simp[execOp,hval,Instr.extract,g1],ow',β,{ size:=by simp[Act.put,h.size],defers:=by simp[Act.put,h.defers],kept:=h.kept,slots:=fun k=>?_,objs:=fun l ob hl=>?_,gone:=by simpa [Env.app]using h.gone,own:=fun b hb=>?_,ios:=by simpa [Env.app]using h.ios,fresh:=h.fresh }⟩
 · simp only[Env.app,aUB,aUx,gI,Act.put]
   by_cases hk:d=k
   · subst hk
     rw[aUs rfl,lT (by rw[h.size];exact hdN)]
     exact⟨Oc,g2,fun b hb=>hIm b (hO b (by simp[hb])),fun _=>⟨nd2.1,fun b hb=>⟨by show(if _ then _ else _)=_;rw[aUs hb],(hdp b (by simp[hb])).2⟩⟩⟩
   · rw[aUq hk,sZ hk]
     by_cases hks:s=k
     · subst hks
       rw[aUs rfl]
       refine⟨O1++O2,?_,fun b hb=>hIm b (hO b (by rcases aUz.1 hb with hb | hb <;> simp[hb])),fun _=>⟨?_,fun b hb=>⟨?_,(hdp b (by rcases aUz.1 hb with hb | hb <;> simp[hb])).2⟩⟩⟩
       · rw[e1]
         simp only[RelV]
         exact⟨cs,rfl,by simpa using e2,g4⟩
       · exact aUQ.2 ⟨nd1.1,nd2.2.1,fun x hx y hy=>nd1.2.2 x hx y (by simp[hy])⟩
       · show(if _ then _ else _)=_
         rw[aUq]
         · exact(hdp b (by rcases aUz.1 hb with hb | hb <;> simp[hb])).1
         · intro hc
           rcases aUz.1 hb with hb | hb
           · exact nd1.2.2 b hb b (by simp[hc]) rfl
           · exact nd2.2.2 b hc b hb rfl
     · rw[aUq hks]
       obtain⟨O',q1,q2,q3⟩:=h.slots k
       exact⟨O',q1,fun b hb=>hIm b (q2 b hb),fun hx=>⟨(q3 hx).1,fun b hb=>⟨hkp b _ ((q3 hx).2 b hb).1 (by intro e;injection e with e;exact hks e.symm),((q3 hx).2 b hb).2⟩⟩⟩
 · simp only[Env.app,aUx]at hl
   obtain⟨O',q1,q2,q3⟩:=h.objs l ob hl
   refine⟨O',fun b hb=>hIm b (q1 b hb),fun hx=>⟨(q2 hx).1,fun b hb=>⟨hkp b _ ((q2 hx).2 b hb).1 (by simp),((q2 hx).2 b hb).2⟩⟩,?_⟩
   rcases q3 with q3 | ⟨b,cs,t,r1,r2,r3,r4⟩
   · exact .inl q3
   · exact .inr ⟨b,cs,t,r1,hkp b _ r2 (by simp),r3,r4⟩
 · by_cases hb':b∈Oc
   · have e:=hoc b hb'
     obtain⟨q1,q2⟩:=h.own b (by rw[e];simp)
     refine⟨q1,.inl ?_⟩
     rcases q2 with q | ⟨m,q,_⟩
     · exact q
     · rw[e]at q;cases q
   · have e:ow' b=ow b:=by show(if _ then _ else _)=_;rw[aUq hb']
     rw[e]at hb
     obtain⟨q1,q2⟩:=h.own b hb
     exact⟨q1,by rw[e];exact q2⟩
end
/- The engine, part NN: the first change of a rule that makes several, softened. -/
section
variable {P:Program}{N:Nat}{Γ:Ctx P N}{S:List (Nat×Slot)}{O:List (Nat×Option Ob)}
theorem Local.softC {o:Oper}{d:Nat}{p p':PV}{dp:Bool}{ss:List (Nat×Slot)}{us:List (Nat×Option Ob)}{rs ro nl:List Nat}(hs:Soft p p')(h:Local Γ o ⟨S,O⟩ ⟨(d,⟨p,dp⟩)::ss,us⟩ rs ro nl):Local Γ o ⟨S,O⟩ ⟨(d,⟨p',dp⟩)::ss,us⟩ rs ro nl:=by
 intro F h1 h2 h3 a w hsim Q
 refine Oper.wp_mono ?_ (h F h1 h2 h3 a w hsim Q)
 rintro a' w' ⟨ow,β,h'⟩
 refine⟨ow,β,{ size:=h'.size,defers:=h'.defers,kept:=h'.kept,slots:=fun j=>?_,objs:=h'.objs,gone:=h'.gone,own:=h'.own,ios:=h'.ios,fresh:=h'.fresh }⟩
 obtain⟨B,g1,g2,g3⟩:=h'.slots j
 simp only[Env.app,aUB,aUx,gI]at g1 g3 ⊢
 by_cases hj:d=j
 · rw[aUs hj]at g1 g3 ⊢
   exact⟨B,hs _ _ _ _ g1,g2,g3⟩
 · rw[aUq hj]at g1 g3 ⊢
   exact⟨B,g1,g2,g3⟩
end
/- The engine, part OO: short forms: a rule and the step that uses it in one (printed by mkoo.py). -/
section
variable {P:Program}{N:Nat}{Γ:Ctx P N}{S S':List (Nat×Slot)}{O O':List (Nat×Option Ob)}
theorem dn {ops:List Oper}{X:List Item->Prop}{Q:Env->Prop}{acc:List Item}{E:Env}(h:Q E):Run Γ ops (fun items E'=>(false=true->X items)/\Q E') [] acc E:=.done ⟨fun h=>Bool.noConfusion h,h⟩
theorem sq {x y:Code}{E:Env}{Q:Exit->Env->Prop}(h:CodeT Γ x E (xV (fun E'=>CodeT Γ y E' Q) Q)):CodeT Γ (.seq x y) E Q:=CodeT.seq h
def aHJ (S:List (Nat×Slot)):List (Nat×Slot)->List (Option PV)
 | []=>[]
 | (k,_)::r=>(lkq S k).map (·.v)::aHJ S r
def aHI (ρ:List (Nat×Nat)):List (Nat×Slot)->List (Option PV)
 | []=>[]
 | (_,sl)::r=>some (aQv ρ sl.v)::aHI ρ r
def aIj (S:List (Nat×Slot)):List (Nat×Slot)->Bool
 | []=>true
 | (k,sl)::r=>(match sl.deep with | true=>(match lkq S k with | some s=>s.deep | none=>false) | false=>true)&&aIj S r
theorem EntS.fast {ρ:List (Nat×Nat)}:∀ {S':List (Nat×Slot)},aHJ S S'=aHI ρ S'->aIj S S'=true->EntS ρ S S'
 | [],_,_=>trivial
 | (k,sl)::r,h1,h2=>by
  simp only[aHJ,aHI,List.cons.injEq]at h1
  simp only[aIj,aUP]at h2
  refine⟨?_,EntS.fast h1.2 h2.2⟩
  cases hs:lkq S k with
  | none=>rw[hs]at h1;simp at h1
  | some s =>
   rw[hs]at h1 h2
   refine⟨s.deep,?_,fun hd=>?_⟩
   · have:=h1.1;simp only[aW8,Option.some.injEq]at this;rw[<- this]
   · have:=h2.1;rw[hd]at this;simpa using this
def aEM (ρ:List (Nat×Nat))(O:List (Nat×Option Ob)):List (Nat×Option Ob)->List (Option (List PV×Bool))
 | []=>[]
 | (_,none)::r=>aEM ρ O r
 | (l,some _)::r=>(loq O (rn ρ l)).map (fun o=>(o.cells,o.box))::aEM ρ O r
def aEL (ρ:List (Nat×Nat)):List (Nat×Option Ob)->List (Option (List PV×Bool))
 | []=>[]
 | (_,none)::r=>aEL ρ r
 | (_,some ob)::r=>some (match ob.box with | true=>aNn ρ ob.cells | false=>ob.cells,ob.box)::aEL ρ r
def aE3 (ρ:List (Nat×Nat))(O:List (Nat×Option Ob)):List (Nat×Option Ob)->Bool
 | []=>true
 | (_,none)::r=>aE3 ρ O r
 | (l,some ob)::r=>(match ob.deep with | true=>(match loq O (rn ρ l)with | some o=>o.deep | none=>false) | false=>true)&&aE3 ρ O r
theorem EntO.fast {ρ:List (Nat×Nat)}:∀ {O':List (Nat×Option Ob)},aEM ρ O O'=aEL ρ O'->aE3 ρ O O'=true->EntO ρ O O'
 | [],_,_=>trivial
 | (_,none)::r,h1,h2=>by
  simp only[aEM,aEL]at h1
  simp only[aE3]at h2
  simp only[EntO]
  exact EntO.fast h1 h2
 | (l,some ob)::r,h1,h2=>by
  simp only[aEM,aEL,List.cons.injEq]at h1
  simp only[aE3,aUP]at h2
  simp only[EntO]
  refine⟨?_,EntO.fast h1.2 h2.2⟩
  cases hs:loq O (rn ρ l)with
  | none=>rw[hs]at h1;simp at h1
  | some o =>
   rw[hs]at h1 h2
   have h3:=h1.1
   simp only[aW8,Option.some.injEq,Prod.mk.injEq]at h3
   refine⟨o.deep,?_,fun hd=>?_⟩
   · obtain⟨c1,c2⟩:=h3
     cases o;simp only[]at c1 c2 ⊢
     rw[c1,c2];cases ob.box <;> rfl
   · have:=h2.1;rw[hd]at this;simpa using this
theorem el (ρ:List (Nat×Nat))(hio:∀ l,Γ.io (rn ρ l)=Γ.io l/\(Γ.io l≠none->rn ρ l=l))(hi:aDW ρ (aAy O')=true)(h1:aHJ S S'=aHI ρ S')(h2:aIj S S'=true)(h3:aEM ρ O O'=aEL ρ O')(h4:aE3 ρ O O'=true):Ent Γ ⟨S,O⟩ ⟨S',O'⟩ :=
 Ent.list ρ hio hi (EntS.fast h1 h2) (EntO.fast h3 h4)
variable {d:Nat}{ty:TypeId}{pos:String}{af:Array Edge}{g:Option (Nat×Bool)}
variable {x y:Operand}{u u':TypeId}{k:IntKind}{m n r:Int}
variable {ops rest:List Oper}{K:List Item->Env->Prop}{acc:List Item}{gs:List Nat}
def aLk (c:PV):Bool:=match c.labs with | []=>true | _=>false
theorem aJR {bx:Bool}{c:PV}(h:(bx||aLk c)=true):bx=true\/c.labs=[]:=by
 cases bx with
 | true=>exact .inl rfl
 | false =>
  right
  simp only[Bool.false_or,aLk]at h
  split at h
  · assumption
  · cases h
end
end Go.Ev
