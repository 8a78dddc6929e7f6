/- Parts EvGG, EvHH, EvII, EvJJ, EvKK, EvLL, EvMM, EvNN, EvOO, EvPP, EvQQ, EvRR. -/
import Derived.Test.YtpeojhbicpjnfaaGreatE4
set_option linter.all false
/- The engine, part GG: functions that write all that an own value holds. -/
namespace Go.Ev
open Go.RowKit (Below)
def MarkC (P:Program) (f:FuncId) (p p':PV) (k k':Value):Prop :=
  ∀ (w:World) (c:Value) (B:List Nat),RelV w.heap dead p c B→B.Nodup→(∀ b ∈ B,eW w b) →
    Calls P f #[c,k] w fun e w'=>e=.returned k'∧Same w w'∧(∀ b,b < w.heap.size→b ∉ B→w'.heap[b]?=w.heap[b]?) ∧
      ∃ B',RelV w'.heap dead p' c B'∧B'.Nodup∧∀ b ∈ B',eW w' b∧(w.heap.size≤b∨b ∈ B)
theorem aEu {w:World} {b:Nat} (h:eW w b):b < w.heap.size:=by
  obtain ⟨cs,t,g⟩:=h
  rcases Nat.lt_or_ge b w.heap.size with h | h
  · exact h
  · simp [Array.getElem?_eq_none h] at g
theorem MarkC.ofN {P:Program} {f:FuncId} {s n:Nat} {old new:List PV} {k k':Value} (h:MeetsN P f [.ref 100000 s 0 n,.sc k] old new (.sc k')):MarkC P f (.rw s n old) (.rw s n new) k k':=by
  intro w c B hr hnd hf
  simp only [RelV] at hr
  rcases hr with ⟨rfl,rfl,rfl,rfl⟩ | ⟨b,cap,cs,t,O',⟨e1,e2,e3⟩,e4,e5,rfl⟩
  · refine (h w #[.slice none 0 0,k] (fun _=>False) none [] ?_ (.inl ⟨rfl,rfl,rfl⟩) (by simp) (by simp)).mono fun e w' ⟨c,H',he,hsame,hoth,hrel,h0,hpost,hnd',hH'⟩=>?_
    · refine ⟨⟨[],?_,by simp⟩,⟨[],by simp [RelV],by simp⟩,trivial⟩
      simp only [RelV]
      exact ⟨trivial,fun _=>⟨trivial,trivial,trivial⟩,fun b e=>by simp at e⟩
    · simp only [RelV] at hrel
      subst he
      rw [hrel.1]
      obtain ⟨q1,q2⟩:=h0 rfl
      subst q1;subst q2
      refine ⟨rfl,hsame,fun b hb _=>hoth b hb (by simp) (by simp),[],?_,by simp,by simp⟩
      simp only [RelV]
      exact .inl ⟨trivial,trivial,trivial,trivial⟩
  · have hn2:=List.nodup_cons.1 hnd
    refine (h w #[c,k] (fun _=>False) (some b) O' ?_ (.inr ⟨b,cs,t,rfl,fun h=>h,hn2.1,e4,e5⟩) hn2.2 (fun c hc=>⟨fun h=>h,hf c (by simp [hc])⟩)).mono fun e w' ⟨c',H',he,hsame,hoth,hrel,h0,hpost,hnd',hH'⟩=>?_
    · refine ⟨⟨[],?_,by simp⟩,⟨[],by simp [RelV],by simp⟩,trivial⟩
      simp only [RelV]
      refine ⟨trivial,fun e=>by simp at e,fun b' e=>?_⟩
      simp at e;subst e
      exact ⟨cap,cs,t,by simpa using e1,e4,by simpa using e3,e2⟩
    · simp only [RelV] at hrel
      subst he
      rw [hrel.1]
      obtain ⟨q1,cs',q2,q3,q4⟩:=hpost b cs t rfl e4
      refine ⟨rfl,hsame,fun b' hb' hnb=>hoth b' hb' (fun e=>by simp at e;subst e;simp at hnb) (fun hm=>by simp [hm] at hnb),b::H',?_,List.nodup_cons.2 ⟨q1,hnd'⟩,fun b' hb'=>?_⟩
      · simp only [RelV]
        exact .inr ⟨b,cap,cs',t,H',⟨e1,e2,by rw [q3];exact e3⟩,q2,q4,rfl⟩
      · rcases List.mem_cons.1 hb' with rfl | hb'
        · exact ⟨⟨_,_,q2⟩,.inr (by simp)⟩
        · exact ⟨(hH' b' hb').1,(hH' b' hb').2.imp id (fun h=>by simp [h])⟩
theorem MarkC.ofX {P:Program} {f:FuncId} {s n:Nat} {old new:List PV} {k k':Value} (h:MeetsX P f [.ref 100000 s 0 n,.sc k] [⟨100000,old,new⟩] (.sc k') true) (ho:lP old=true):MarkC P f (.rw s n old) (.rw s n new) k k':=by
  intro w c B hr hnd hf
  simp only [RelV] at hr
  rcases hr with ⟨rfl,rfl,rfl,rfl⟩ | ⟨b,cap,cs,t,O',⟨e1,e2,e3⟩,e4,e5,rfl⟩
  · refine (h w #[.slice none 0 0,k] (fun _=>False) (fun l=>if l=100000 then some none else none) ?_ ?_ ?_ ?_).mono fun e w' ⟨c,B,he,hsame,hoth,hpost,hrel,_⟩=>?_
    · refine ⟨⟨[],?_,by simp⟩,⟨[],by simp [RelV],by simp⟩,trivial⟩
      simp only [RelV]
      exact ⟨trivial,fun _=>⟨trivial,trivial,trivial⟩,fun b e=>by simp at e⟩
    · intro o ho';simp at ho';subst ho';exact .inl ⟨by simp,rfl⟩
    · intro l o e
      have:l=100000:=by
        by_cases hl:l=100000
        · exact hl
        · simp [hl] at e
      exact ⟨⟨100000,_,_⟩,List.mem_singleton.2 rfl,this.symm⟩
    · intro l l' b e;split at e <;> simp at e
    · simp only [RelV] at hrel
      subst he
      rw [hrel.1]
      have q:=(hpost ⟨100000,[],new⟩ (by simp)).1 (by simp)
      simp only at q;subst q
      refine ⟨rfl,hsame,fun b hb _=>hoth b hb (fun l e=>by split at e <;> simp at e),[],?_,by simp,by simp⟩
      simp only [RelV]
      exact .inl ⟨trivial,trivial,trivial,trivial⟩
  · have:=vG ho e5
    subst this
    refine (h w #[c,k] (fun _=>False) (fun l=>if l=100000 then some (some b) else none) ?_ ?_ ?_ ?_).mono fun e w' ⟨c',B,he,hsame,hoth,hpost,hrel,_⟩=>?_
    · refine ⟨⟨[],?_,by simp⟩,⟨[],by simp [RelV],by simp⟩,trivial⟩
      simp only [RelV]
      refine ⟨trivial,fun e=>by simp at e,fun b' e=>?_⟩
      simp at e;subst e
      exact ⟨cap,cs,t,by simpa using e1,e4,by simpa using e3,e2⟩
    · intro o ho';simp at ho';subst ho';exact .inr ⟨b,cs,t,by simp,fun h=>h,e4,e5⟩
    · intro l o e
      have:l=100000:=by
        by_cases hl:l=100000
        · exact hl
        · simp [hl] at e
      exact ⟨⟨100000,_,_⟩,List.mem_singleton.2 rfl,this.symm⟩
    · intro l l' b' e e'
      split at e <;> split at e' <;> simp_all
    · simp only [RelV] at hrel
      subst he
      rw [hrel.1]
      obtain ⟨cs',q2,q3,q4⟩:=(hpost ⟨100000,old,new⟩ (by simp)).2 b (by simp) cs t e4
      refine ⟨rfl,hsame,fun b' hb' hnb=>hoth b' hb' (fun l e=>?_),[b],?_,by simp,fun b' hb'=>?_⟩
      · split at e
        · simp at e;subst e;simp at hnb
        · simp at e
      · simp only [RelV]
        exact .inr ⟨b,cap,cs',t,[],⟨e1,e2,by rw [q3];exact e3⟩,q2,q4,rfl⟩
      · simp at hb';subst hb';exact ⟨⟨_,_,q2⟩,.inr (by simp)⟩
def slp:PV→PV
  | .was v _=>.sc v
  | p=>p
def stp:PV→PV
  | .was _ p=>p
  | p=>p
def rew:List PV→List PV→List PV
  | .was v _::ws,p::ps=>.was v p::rew ws ps
  | _::ws,p::ps=>p::rew ws ps
  | _,_=>[]
def lL:List PV→Bool
  | []=>true
  | .was _ _::r=>lL r
  | _=>false
inductive MCut:List PV→PV→PV→PV→List PV→Prop
  | one {v:Value} {p p':PV}:MCut [.was v p] (.sc v) p p' [.was v p']
  | agg {ws ns:List PV}:lL ws=true→Nat.beq ns.length ws.length=true→MCut ws (.agg (ws.map slp)) (.agg (ws.map stp)) (.agg ns) (rew ws ns)
section
variable {P:Program} {N:Nat} {Γ:Ctx P N} {S:List (Nat × Slot)} {O:List (Nat × Option Ob)} {ow:Nat→Own} {β:Nat→Option (Option Nat)} {F:Env} {a:Act} {w:World}
theorem Soft.was {v:Value} {p:PV}:Soft (.was v p) p:=by
  intro h β c B H
  simp only [RelV] at H
  exact H.2
theorem aD5 {h:Array Obj} {β:Nat→Option (Option Nat)}:∀ {ws:List PV} {cs:Array Value} {i:Nat} {O:List Nat},lL ws=true→RelL h true β (ws.map slp) cs i O→∀ {h':Array Obj} {β':Nat→Option (Option Nat)} {cs':Array Value} {j:Nat} {O':List Nat},RelL h' true β' ws cs' j O'→∀ k,k < ws.length→cs[i+k]?=cs'[j+k]?
  | [],_,_,_,_,_=>fun _ k hk=>by simp at hk
  | .was v p::ws,cs,i,O,ha,H=>fun H' k hk=>by
    simp only [List.map_cons,slp,RelL,RelV] at H H'
    obtain ⟨c,O1,O2,h1,⟨h2,_⟩,h3,_⟩:=H
    obtain ⟨c',O1',O2',h1',⟨h2',_⟩,h3',_⟩:=H'
    cases k with
    | zero=>simp only [Nat.add_zero];rw [h1.1,h1'.1,h2,h2']
    | succ k =>
      have:=aD5 (ws:=ws) (by simpa [lL] using ha) h3 h3' k (by simpa using hk)
      rw [show i+(k+1)=i+1+k by omega,this];congr 1;omega
  | .sc _::_,_,_,_,ha,_=>by simp [lL] at ha
  | .sl _ _::_,_,_,_,ha,_=>by simp [lL] at ha
  | .ref _ _ _ _::_,_,_,_,ha,_=>by simp [lL] at ha
  | .ptr _ _::_,_,_,_,ha,_=>by simp [lL] at ha
  | .iptr _::_,_,_,_,ha,_=>by simp [lL] at ha
  | .rw _ _ _::_,_,_,_,ha,_=>by simp [lL] at ha
  | .agg _::_,_,_,_,ha,_=>by simp [lL] at ha
  | .tup _::_,_,_,_,ha,_=>by simp [lL] at ha
  | .any::_,_,_,_,ha,_=>by simp [lL] at ha
theorem aEV {h:Array Obj} {q:Bool} {β:Nat→Option (Option Nat)}:∀ {ws:List PV} {cs:Array Value} {i:Nat} {O:List Nat},RelL h q β ws cs i O→RelL h q β (ws.map stp) cs i O
  | [],_,_,_,H=>by simpa using H
  | p::ws,cs,i,O,H=>by
    simp only [List.map_cons,RelL] at H ⊢
    obtain ⟨c,O1,O2,h1,h2,h3,e⟩:=H
    refine ⟨c,O1,O2,h1,?_,aEV h3,e⟩
    cases p with
    | was v p=>simp only [RelV] at h2;exact h2.2
    | _=>exact h2
theorem aEW {h h':Array Obj} {β β':Nat→Option (Option Nat)}:∀ {ws ns:List PV} {cs:Array Value} {i:Nat} {O O':List Nat},ns.length=ws.length→RelL h true β ws cs i O→RelL h' true β' ns cs i O'→RelL h' true β' (rew ws ns) cs i O'
  | [],[],_,_,_,_,_,_,H=>by simpa [rew] using H
  | p::ws,p'::ns,cs,i,O,O',hl,H,H'=>by
    simp only [RelL] at H H'
    obtain ⟨c,O1,O2,h1,h2,h3,e⟩:=H
    obtain ⟨c',O1',O2',h1',h2',h3',e'⟩:=H'
    have ih:=aEW (by simpa using hl) h3 h3'
    have hc:c=c':=by rw [h1.1] at h1';injection h1'.1
    subst hc
    have key:∀ q:PV,RelV h' β' q c O1'→RelL h' true β' (q::rew ws ns) cs i O':=fun q hq=>by
      simp only [RelL];exact ⟨c,O1',O2',h1',hq,ih,e'⟩
    cases p with
    | was v p=>simp only [RelV] at h2;simp only [rew];exact key _ (by simp only [RelV];exact ⟨h2.1,h2'⟩)
    | _=>simp only [rew];exact key _ h2'
  | [],_::_,_,_,_,_,hl,_,_=>by simp at hl
  | _::_,[],_,_,_,_,hl,_,_=>by simp at hl
variable {d:Nat} {ty:TypeId} {pos:String} {af:Array Edge} {g:Option (Nat × Bool)}
theorem aIS {f:FuncId} [hfc:FnC P f] {x y:Operand} {tus:Array TypeId} {l off m:Nat} {cells ws nw:List PV} {q p p':PV} {k k':Value} (hx:evq S x=some q) (hy:evq S y=some (.sc k)) (ho:loq O l=some ⟨cells,true,false⟩)
    (hw:(cells.drop off).take m=ws) (hm0:Nat.beq ws.length m=true) (hne:Nat.blt 0 m=true) (hq:MCut ws q p p' nw) (hm:MarkC P f p p' k k') {cells':List PV} (hcat:cells.take off++nw++cells.drop (off+m)=cells') (hle:∀ b,¬Γ.lent b) (hd:Nat.blt d N=true) :
    Local Γ ⟨some d,.call ⟨.value (.func f),#[x,y],tus⟩,ty,pos,af,g⟩ ⟨S,O⟩ ⟨[(d,⟨.sc k',false⟩)],[(l,some ⟨cells',true,false⟩)]⟩ (ors x++ors y) [l] [777777777]:=by
  classical
  intro F hs hl hnl a w ⟨ow,β,hsim⟩ Q
  have hdN:=(aZ _ _).1 hd
  have hm0:=Nat.eq_of_beq_eq_true hm0
  have hne:=(aZ _ _).1 hne
  have hlF:lo F.o l=some ⟨cells,true,false⟩:=by rw [hl l (by simp),← cX];exact ho
  obtain ⟨H,o1,o2,o3⟩:=hsim.objs l _ hlF
  obtain ⟨nd,o2⟩:=o2 rfl
  have hcut:cells=cells.take off++(ws++cells.drop (off+m)):=by
    rw [← hw,← List.drop_drop,List.take_append_drop,List.take_append_drop]
  have hwl:off+m≤cells.length:=by
    have:ws.length≤(cells.drop off).length:=by rw [← hw];exact List.length_take_le' _ _
    rw [List.length_drop] at this;omega
  rcases o3 with ⟨_,e2,_⟩ | ⟨b0,cs,t,e1,e2,e3,e4⟩
  · simp only at e2;subst e2;simp at hwl;omega
  simp only [Bool.false_eq_true,if_false] at e4
  rw [hcut] at e4
  obtain ⟨O1,Om',r1,r2,rfl⟩:=(RelL.append _ _ _ _ _).1 e4
  obtain ⟨Om,O2,r3,r4,rfl⟩:=(RelL.append _ _ _ _ _).1 r2
  have hlen1:(cells.take off).length=off:=by rw [List.length_take];omega
  rw [hlen1,Nat.zero_add] at r3 r4
  obtain ⟨Bx,gx1,gx2⟩:=dO hsim hx (fun j hj=>hs j (by simp [hj]))
  obtain ⟨By,gy1,gy2⟩:=dO hsim hy (fun j hj=>hs j (by simp [hj]))
  simp only [RelV] at gy1
  have harg:RelV w.heap dead p (a.eval x) Om:=by
    cases hq with
    | one =>
      simp only [RelV] at gx1
      simp only [RelL,RelV] at r3
      obtain ⟨c,P1,P2,q1,⟨q2,q3⟩,q4,q5⟩:=r3
      subst q4
      rw [gx1.1,← q2,q5,List.append_nil];exact q3
    | agg ha _ =>
      simp only [RelV] at gx1 ⊢
      obtain ⟨xs,x1,x2,x3⟩:=gx1
      refine ⟨xs,x1,by simpa using x2,?_⟩
      refine RelL.shift _ cs xs off 0 Om (fun k hk=>?_) (aEV r3)
      exact aD5 ha x3 r3 k (by simpa using hk)
  have nd1:=List.nodup_append.1 nd
  have nd2:=List.nodup_append.1 nd1.2.1
  have hfree:∀ b ∈ Om,eW w b:=fun b hb=>(o2 b (by simp [hb])).2
  unfold Oper.wp
  have hrun:(execOp a.eval ⟨some d,.call ⟨.value (.func f),#[x,y],tus⟩,ty,pos,af,g⟩).run P w=.ok (.enter f #[a.eval x,a.eval y]) w:=by
    simp [execOp,resolve,Act.eval,Deferred.ofValue,invoke,hfc.run]
  rw [hrun]
  show Calls _ _ _ _ _
  rw [gy1.1]
  refine (hm w (a.eval x) Om harg nd2.1 hfree).mono fun e w' ⟨he,hsame,hoth,B',hrel,hnd',hB'⟩=>?_
  subst he
  show Sim Γ _ _ _
  have hdis1:∀ b ∈ O1,b ∉ Om:=fun b hb hb'=>nd1.2.2 b hb b (by simp [hb']) rfl
  have hdis2:∀ b ∈ O2,b ∉ Om:=fun b hb hb'=>nd2.2.2 b hb' b hb rfl
  have hb1:∀ b,b ∈ O1++O2→w'.heap[b]?=w.heap[b]?:=fun b hb=>by
    rcases List.mem_append.1 hb with hb | hb
    · exact hoth b (o1 b (by simp [hb])).1 (hdis1 b hb)
    · exact hoth b (o1 b (by simp [hb])).1 (hdis2 b hb)
  have hB'n:∀ b ∈ B',b ∉ O1++O2:=fun b hb hb'=>by
    have hlt:b < w.heap.size:=(o1 b (by rcases List.mem_append.1 hb' with h | h <;> simp [h])).1
    rcases (hB' b hb).2 with h | h
    · omega
    · rcases List.mem_append.1 hb' with h' | h'
      · exact hdis1 b h' h
      · exact hdis2 b h' h
  have hb0:b0 ∉ O1++(Om++O2):=fun hb=>by
    have:=(o2 b0 hb).1;rw [e2] at this;cases this
  have hb0lt:b0 < w.heap.size:=hsim.block_lt e1
  have hmid:RelL w'.heap true dead nw cs off B'∧nw.length=m:=by
    cases hq with
    | one =>
      simp only [RelL,RelV] at r3 ⊢
      obtain ⟨c,P1,P2,q1,⟨q2,q3⟩,q4,q5⟩:=r3
      simp only [RelV] at gx1
      rw [gx1.1,← q2] at hrel
      exact ⟨⟨c,B',[],q1,⟨q2,hrel⟩,rfl,by simp⟩,by simpa using hm0⟩
    | agg ha hnl =>
      have hnl:=Nat.eq_of_beq_eq_true hnl
      simp only [RelV] at hrel
      obtain ⟨ys,y1,y2,y3⟩:=hrel
      simp only [RelV] at gx1
      obtain ⟨xs,x1,x2,x3⟩:=gx1
      rw [x1] at y1;injection y1 with y1;subst y1
      have hz:RelL w'.heap true dead _ cs off B':=RelL.shift _ xs cs 0 off B' (fun k hk=>(aD5 ha x3 r3 k (by omega)).symm) y3
      refine ⟨aEW hnl r3 hz,?_⟩
      have:∀ (a b:List PV),b.length=a.length→(rew a b).length=a.length:=by
        intro a
        induction a with
        | nil=>intro b hb;cases b <;> simp [rew] at hb ⊢
        | cons p a ih =>
          intro b hb
          cases b with
          | nil=>simp at hb
          | cons p' b=>cases p <;> simp [rew,ih b (by simpa using hb)]
      rw [this _ _ hnl,hm0]
  have hnew:RelL w'.heap true dead cells' cs 0 (O1++(B'++O2)):=by
    rw [← hcat]
    refine (RelL.append _ _ _ _ _).2 ⟨O1++B',O2,(RelL.append _ _ _ _ _).2 ⟨O1,B',?_,?_,rfl⟩,?_,by simp⟩
    · exact RelL.keep _ _ _ _ (fun _ _ l _=>KeepB.dead _ _ l) (fun b hb=>hb1 b (by simp [hb])) r1
    · rw [hlen1,Nat.zero_add];exact hmid.1
    · have:(cells.take off++nw).length=off+m:=by rw [List.length_append,hlen1,hmid.2]
      rw [this,Nat.zero_add]
      have r4':=r4
      rw [hm0] at r4'
      exact RelL.keep _ _ _ _ (fun _ _ l _=>KeepB.dead _ _ l) (fun b hb=>hb1 b (by simp [hb])) r4'
  obtain ⟨ow',h',_⟩:=hsim.rewriteN (H:=O1++(Om++O2)) (H':=O1++(B'++O2)) (new:=cells') hsame hle (hnl 777777777 (by simp)) hlF (fun b hb=>(o2 b hb).1)
    (fun b hb h1 h2=>hoth b hb (fun hm'=>h2 (by simp [hm']))) (fun e=>by rw [e1] at e;cases e)
    (fun b c t' e hc=>by
      rw [e1] at e;cases e
      rw [e3] at hc;cases hc
      refine ⟨fun hb=>?_,cs,?_,rfl,hnew⟩
      · simp only [List.mem_append] at hb
        rcases hb with hb | hb | hb
        · exact hb0 (by simp [hb])
        · rcases (hB' _ hb).2 with g | g
          · omega
          · exact hb0 (by simp [g])
        · exact hb0 (by simp [hb])
      · rw [hoth _ hb0lt (fun hm'=>hb0 (by simp [hm']))];exact e3)
    (by
      refine List.nodup_append.2 ⟨nd1.1,List.nodup_append.2 ⟨hnd',nd2.2.1,fun x hx y hy e=>hB'n x hx (by subst e;simp [hy])⟩,fun x hx y hy e=>?_⟩
      subst e
      rcases List.mem_append.1 hy with hy | hy
      · exact hB'n x hy (by simp [hx])
      · exact nd1.2.2 x hx x (by simp [hy]) rfl)
    (fun c hc=>by
      simp only [List.mem_append] at hc
      rcases hc with hc | hc | hc
      · obtain ⟨cs1,t1,hf1⟩:=(o2 c (by simp [hc])).2
        exact ⟨⟨cs1,t1,by rw [hb1 c (by simp [hc])];exact hf1⟩,.inr (by simp [hc])⟩
      · exact ⟨(hB' c hc).1,(hB' c hc).2.imp id (fun h=>by simp [h])⟩
      · obtain ⟨cs1,t1,hf1⟩:=(o2 c (by simp [hc])).2
        exact ⟨⟨cs1,t1,by rw [hb1 c (by simp [hc])];exact hf1⟩,.inr (by simp [hc])⟩)
  have h2:=h'.put (d:=d) (v:=.sc k') (c:=k') (O:=[]) hdN (by simp only [RelV];exact ⟨trivial,trivial⟩) (by simp)
  exact ⟨_,_,h2.congr (fun k=>rfl) (fun l=>rfl)⟩
end
end Go.Ev
/- The engine, part HH: cells made known, values forgotten; functions that write what a struct holds. -/
namespace Go.Ev
open Go.RowKit (Below)
def Forg (p p':PV):Prop:=∀ (h:Array Obj) (β:Nat→Option (Option Nat)) (c:Value) (B:List Nat),RelV h β p c B→RelV h β p' c []
theorem Forg.was {v:Value} {p:PV}:Forg (.was v p) (.sc v):=by
  intro h β c B H
  simp only [RelV] at H ⊢
  exact ⟨H.1,trivial⟩
theorem aHM {h:Array Obj} {q:Bool} {β:Nat→Option (Option Nat)}:∀ {ws:List PV} {cs:Array Value} {i:Nat} {O:List Nat},lL ws=true→RelL h q β ws cs i O→RelL h q β (ws.map slp) cs i []
  | [],_,_,_,_,_=>by simp [RelL]
  | p::ws,cs,i,O,ha,H=>by
    cases p with
    | was v p =>
      simp only [List.map_cons,slp,RelL,RelV] at H ⊢
      obtain ⟨c,O1,O2,h1,h2,h3,_⟩:=H
      exact ⟨c,[],[],h1,⟨h2.1,rfl⟩,aHM (by simpa [lL] using ha) h3,rfl⟩
    | _=>simp [lL] at ha
theorem Forg.agg {ws:List PV} (ha:lL ws=true):Forg (.agg ws) (.agg (ws.map slp)):=by
  intro h β c B H
  simp only [RelV] at H ⊢
  obtain ⟨cs,h1,h2,h3⟩:=H
  exact ⟨cs,h1,by simpa using h2,aHM ha h3⟩
def wz:List Value→List PV→List PV
  | v::vs,p::ps=>.was v p::wz vs ps
  | _,_=>[]
theorem aAt {h:Array Obj} {q:Bool} {β:Nat→Option (Option Nat)}:∀ {vs:List Value} {ps:List PV} {cs:Array Value} {i:Nat} {O:List Nat},vs.length=ps.length→(∀ k,k < vs.length→cs[i+k]?=vs[k]?)→RelL h q β ps cs i O→RelL h q β (wz vs ps) cs i O
  | [],[],_,_,_,_,_,H=>by simpa [wz] using H
  | v::vs,p::ps,cs,i,O,hl,hk,H=>by
    simp only [wz,RelL] at H ⊢
    obtain ⟨c,O1,O2,h1,h2,h3,e⟩:=H
    have h0:=hk 0 (by simp)
    simp only [Nat.add_zero,List.getElem?_cons_zero] at h0
    rw [h1.1] at h0;injection h0 with h0
    refine ⟨c,O1,O2,h1,by simp only [RelV];exact ⟨h0,h2⟩,aAt (by simpa using hl) (fun k hk'=>?_) h3,e⟩
    have:=hk (k+1) (by simpa using hk')
    rw [show i+1+k=i+(k+1) by omega,this];simp
  | [],_::_,_,_,_,hl,_,_=>by simp at hl
  | _::_,[],_,_,_,hl,_,_=>by simp at hl
theorem aDT {h:Array Obj} {q:Bool} {β:Nat→Option (Option Nat)}:∀ {vs:List Value} {ps:List PV} {cs:Array Value} {i:Nat} {O:List Nat},vs.length=ps.length→RelL h q β (wz vs ps) cs i O→(∀ k,k < vs.length→cs[i+k]?=vs[k]?)∧RelL h q β ps cs i O
  | [],[],_,_,_,_,H=>⟨fun k hk=>by simp at hk,by simpa [wz] using H⟩
  | v::vs,p::ps,cs,i,O,hl,H=>by
    simp only [wz,RelL] at H ⊢
    obtain ⟨c,O1,O2,h1,h2,h3,e⟩:=H
    simp only [RelV] at h2
    obtain ⟨g1,g2⟩:=aDT (by simpa using hl) h3
    refine ⟨fun k hk=>?_,c,O1,O2,h1,h2.2,g2,e⟩
    cases k with
    | zero=>simp only [Nat.add_zero,List.getElem?_cons_zero];rw [h1.1,h2.1]
    | succ k =>
      rw [show i+(k+1)=i+1+k by omega,g1 k (by simpa using hk)];simp
  | [],_::_,_,_,_,hl,_=>by simp at hl
  | _::_,[],_,_,_,hl,_=>by simp at hl
section
variable {P:Program} {N:Nat} {Γ:Ctx P N} {S:List (Nat × Slot)} {O:List (Nat × Option Ob)} {ow:Nat→Own} {β:Nat→Option (Option Nat)} {F:Env} {a:Act} {w:World}
theorem SimG.recell (h:SimG Γ ow β ⟨S,O⟩ a w) {l:Nat} {cells cells':List PV} {dp bx:Bool} (ho:loq O l=some ⟨cells,dp,bx⟩) (hne:cells≠[])
    (hr:∀ cs B,RelL w.heap true (if bx then β else dead) cells cs 0 B→RelL w.heap true (if bx then β else dead) cells' cs 0 B):SimG Γ ow β ⟨S,(l,some ⟨cells',dp,bx⟩)::O⟩ a w:=by
  have ho':lo (Env.mk S O).o l=some ⟨cells,dp,bx⟩:=by rw [← cX];exact ho
  refine { size:=h.size,defers:=h.defers,kept:=h.kept,slots:=h.slots,objs:=fun m ob hm=>?_,gone:=fun m hm=>?_,own:=h.own,ios:=fun m b hm hs=>?_,fresh:=h.fresh }
  · simp only [aW] at hm
    by_cases hml:l=m
    · subst hml
      rw [if_pos rfl] at hm;cases hm
      obtain ⟨B,o1,o2,o3⟩:=h.objs l _ ho'
      refine ⟨B,o1,o2,?_⟩
      rcases o3 with ⟨_,e2,_⟩ | ⟨b,cs,t,e1,e2,e3,e4⟩
      · exact absurd e2 hne
      · exact .inr ⟨b,cs,t,e1,e2,e3,hr _ _ e4⟩
    · rw [if_neg hml] at hm;exact h.objs m ob hm
  · simp only [aW] at hm
    by_cases hml:l=m
    · rw [if_pos hml] at hm;cases hm
    · rw [if_neg hml] at hm;exact h.gone m hm
  · simp only [aW] at hs
    by_cases hml:l=m
    · subst hml;exact h.ios l b hm (by rw [ho'];rfl)
    · rw [if_neg hml] at hs;exact h.ios m b hm hs
theorem CodeT.expose {code:Code} {Q:Exit→Env→Prop} {l c:Nat} {cells:List PV} {p:PV} {dp bx:Bool} (ho:loq O l=some ⟨cells,dp,bx⟩) (hc:cells[c]?=some p)
    (h:∀ v,CodeT Γ code ⟨S,(l,some ⟨cells.set c (.was v p),dp,bx⟩)::O⟩ Q):CodeT Γ code ⟨S,O⟩ Q:=by
  rintro a w ⟨ow,β,hs⟩
  have ho':lo (Env.mk S O).o l=some ⟨cells,dp,bx⟩:=by rw [← cX];exact ho
  have hne:cells≠[]:=by rintro rfl;simp at hc
  obtain ⟨B,o1,o2,o3⟩:=hs.objs l _ ho'
  rcases o3 with ⟨_,e2,_⟩ | ⟨b,cs,t,e1,e2,e3,e4⟩
  · exact absurd e2 hne
  · obtain ⟨v,O1,Oc,O2,q1,q2,q3,q4,q5,rfl⟩:=e4.at hc
    refine h v a w ⟨ow,β,{ size:=hs.size,defers:=hs.defers,kept:=hs.kept,slots:=hs.slots,objs:=fun m ob hm=>?_,gone:=fun m hm=>?_,own:=hs.own,ios:=fun m b hm hx=>?_,fresh:=hs.fresh }⟩
    · simp only [aW] at hm
      by_cases hml:l=m
      · subst hml
        rw [if_pos rfl] at hm;cases hm
        exact ⟨_,o1,o2,.inr ⟨b,cs,t,e1,e2,e3,RelL.put hc q1 q2 (by simp only [RelV];exact ⟨trivial,q3⟩) q4 q5⟩⟩
      · rw [if_neg hml] at hm;exact hs.objs m ob hm
    · simp only [aW] at hm
      by_cases hml:l=m
      · rw [if_pos hml] at hm;cases hm
      · rw [if_neg hml] at hm;exact hs.gone m hm
    · simp only [aW] at hx
      by_cases hml:l=m
      · subst hml;exact hs.ios l b hm (by rw [ho'];rfl)
      · rw [if_neg hml] at hx;exact hs.ios m b hm hx
theorem Local.forget {o:Oper} {d:Nat} {p p':PV} {dp:Bool} {us:List (Nat × Option Ob)} {rs ro nl:List Nat} (hs:Forg p p') (h:Local Γ o ⟨S,O⟩ ⟨[(d,⟨p,dp⟩)],us⟩ rs ro nl):Local Γ o ⟨S,O⟩ ⟨[(d,⟨p',false⟩)],us⟩ rs ro nl:=by
  intro F h1 h2 h3 a w hsim Q
  refine Oper.wp_mono ?_ (h F h1 h2 h3 a w hsim Q)
  rintro a' w' ⟨ow,β,h'⟩
  refine ⟨ow,β,{ size:=h'.size,defers:=h'.defers,kept:=h'.kept,slots:=fun j=>?_,objs:=h'.objs,gone:=h'.gone,own:=h'.own,ios:=h'.ios,fresh:=h'.fresh }⟩
  obtain ⟨B,g1,g2,g3⟩:=h'.slots j
  simp only [Env.app,List.cons_append,List.nil_append,cN] at g1 g3 ⊢
  by_cases hj:d=j
  · rw [if_pos hj] at g1 g3 ⊢
    exact ⟨[],hs _ _ _ _ g1,by simp,by simp⟩
  · rw [if_neg hj] at g1 g3 ⊢
    exact ⟨B,g1,g2,g3⟩
def RetM (Γ:Ctx P N) (rs:Array ResultVar) (E:Env) (k':Value) (ws:List PV):Prop :=
  RetIs Γ rs E (.sc k') true∧∀ a w,Sim Γ E a w→∃ E' l,Sim Γ E' a w∧lo E'.o l=some ⟨ws,true,false⟩
def aBr (Γ:Ctx P N) (rs:Array ResultVar) (k':Value) (ws:List PV):Exit→Env→Prop
  | .normal,E=>RetM Γ rs E k' ws
  | .ret,E=>RetM Γ rs E k' ws
  | _,_=>False
theorem zm2 {E:Env} {rs:Array ResultVar} {k':Value} {ws:List PV} (h:RetM Γ rs E k' ws):aBr Γ rs k' ws .ret E:=h
theorem RetM.mk {rs:Array ResultVar} {k':Value} {ws:List PV} (l:Nat) (h:RetIs Γ rs ⟨S,O⟩ (.sc k') true) (ho:loq O l=some ⟨ws,true,false⟩):RetM Γ rs ⟨S,O⟩ k' ws:=⟨h,fun _ _ hs=>⟨_,l,hs,by rw [← cX];exact ho⟩⟩
end
theorem MarkC.introS {P:Program} {N:Nat} {f:FuncId} {fn:Func} {c:Code} {cells new:List PV} {k k':Value} {rs:Array ResultVar} (hf:P.funcs[f]?=some fn) (hb:fn.body=some c) (hN:fn.ntmps=N) (hrs:fn.results=rs) (hn:Nat.ble 2 N=true) (hlen:Nat.beq new.length cells.length=true) (hla:eN cells=true)
    (h:∀ (Γ:Ctx P N) (vs:List Value),vs.length=cells.length→(∀ l,Nat.blt l 100000=true→Γ.io l=none)→(∀ b,¬Γ.lent b)→CodeT Γ c ⟨[(0,⟨.agg (wz vs cells),true⟩),(1,⟨.sc k,false⟩)],[]⟩ (aBr Γ rs k' (wz vs new))):MarkC P f (.agg cells) (.agg new) k k':=by
  classical
  intro w c0 B hr hnd hB
  have hn:=Nat.le_of_ble_eq_true hn
  have hlen:=Nat.eq_of_beq_eq_true hlen
  simp only [RelV] at hr
  obtain ⟨cs,rfl,hsize,hrel⟩:=hr
  let Γ:Ctx P N:={ base:=w.heap.size,ok:=fun _=>False,io:=fun _=>none,w0:=w,mine:=fun b=>b ∈ B,lent:=fun _=>False }
  have hsz:(#[Value.agg cs,k]++Array.replicate (fn.ntmps - 2) undef).size=N:=by
    simp [hN];omega
  refine calls_of_wp hf hb ?_
  let ow:Nat→Own:=fun b=>if b ∈ B then .slot 0 else .none
  have how:∀ b ∈ B,ow b=.slot 0:=fun b hb=>by show (if _ then _ else _)=_;rw [if_pos hb]
  have hvs:cs.toList.length=cells.length:=by simpa using hsize
  have hsim:Sim Γ ⟨[(0,⟨.agg (wz cs.toList cells),true⟩),(1,⟨.sc k,false⟩)],[]⟩ { tmps:=#[Value.agg cs,k]++Array.replicate (fn.ntmps - 2) undef,defers:=[] } w:=by
    refine ⟨ow,fun _=>none,{ size:=hsz,defers:=rfl,kept:=⟨rfl,rfl,rfl,Nat.le_refl _,fun _ _ _ _=>rfl,fun b _ _ cs t h=>⟨cs,h,rfl⟩⟩,slots:=fun j=>?_,objs:=fun l ob hl=>(by simp [lo] at hl),gone:=fun _ _=>rfl,own:=fun b hb=>?_,ios:=fun l b hl=>(by cases hl),fresh:=fun l b hl=>(by cases hl) }⟩
    · simp only [cN]
      by_cases h0:0=j
      · subst h0
        rw [if_pos rfl]
        refine ⟨B,?_,fun b hb=>⟨aEu (hB b hb),.inr (.inl (.inr hb)),fun l=>by rw [how b hb];simp⟩,fun _=>⟨hnd,fun b hb=>⟨how b hb,hB b hb⟩⟩⟩
        have e:(#[Value.agg cs,k]++Array.replicate (fn.ntmps - 2) undef).getD 0 undef=.agg cs:=by simp [Array.getD_eq_getD_getElem?,Array.getElem?_append]
        rw [e]
        have hwl:(wz cs.toList cells).length=cells.length:=by
          have:∀ (a:List Value) (b:List PV),a.length=b.length→(wz a b).length=b.length:=by
            intro a
            induction a with
            | nil=>intro b hb;cases b <;> simp [wz] at hb ⊢
            | cons x a ih=>intro b hb;cases b with
              | nil=>simp at hb
              | cons y b=>simp [wz,ih b (by simpa using hb)]
          exact this _ _ hvs
        simp only [RelV]
        refine ⟨cs,rfl,by rw [hwl];exact hsize,aAt hvs (fun k hk=>by simp) (nI (jA hla) hrel)⟩
      · rw [if_neg h0]
        by_cases h1:1=j
        · subst h1
          rw [if_pos rfl]
          have e:(#[Value.agg cs,k]++Array.replicate (fn.ntmps - 2) undef).getD 1 undef=k:=by simp [Array.getD_eq_getD_getElem?,Array.getElem?_append]
          exact ⟨[],by simp only [RelV];exact ⟨e,trivial⟩,by simp,by simp⟩
        · rw [if_neg h1]
          exact ⟨[],by simp [RelV,lk],by simp,by simp [lk]⟩
    · by_cases hm:b ∈ B
      · exact ⟨aEu (hB b hm),.inl (.inl (.inr hm))⟩
      · exfalso;apply hb;show (if _ then _ else _)=_;rw [if_neg hm]
  refine wp_mono (h Γ cs.toList hvs (fun _ _=>rfl) (fun _ h=>h) _ _ hsim) fun e a' w' ⟨E',hs',hq⟩=>?_
  have fin:RetM Γ rs E' k' (wz cs.toList new)→a'.defers=[]∧∃ v,(results fn a'.tmps).run P w'=.ok v w'∧Ending.returned v=.returned k'∧Same w w'∧(∀ b,b < w.heap.size→b ∉ B→w'.heap[b]?=w.heap[b]?) ∧
      ∃ B',RelV w'.heap dead (.agg new) (.agg cs) B'∧B'.Nodup∧∀ b ∈ B',eW w' b∧(w.heap.size≤b∨b ∈ B):=by
    rintro ⟨hr1,hr2⟩
    obtain ⟨c,B1,g1,g2,_,_⟩:=hr1 fn hrs a' w' hs'
    simp only [RelV] at g2
    obtain ⟨E2,l,⟨ow2,β2,hs2⟩,hl⟩:=hr2 a' w' hs'
    obtain ⟨Bo,k1,k2,k3⟩:=hs2.objs l _ hl
    obtain ⟨k2n,k2⟩:=k2 rfl
    refine ⟨hs2.defers,c,g1,by rw [g2.1],⟨hs2.kept.os,hs2.kept.output,hs2.kept.tape,hs2.kept.size⟩,fun b hb hn2=>hs2.kept.old b hb (fun l e=>by cases e) hn2,Bo,?_,k2n,fun c hc=>⟨(k2 c hc).2,?_⟩⟩
    · simp only [RelV]
      refine ⟨cs,rfl,by rw [hsize,hlen],?_⟩
      rcases k3 with ⟨_,e2,e3⟩ | ⟨b',cs',t',k4,k5,k6,k7⟩
      · have:new=[]:=by
          simp only at e2
          cases hcs:cs.toList with
          | nil =>
            rw [hcs] at hvs
            exact List.length_eq_zero_iff.1 (by rw [hlen,← hvs];rfl)
          | cons x r =>
            cases new with
            | nil=>rfl
            | cons y n=>rw [hcs] at e2;simp [wz] at e2
        subst this;subst e3;simp [RelL]
      · simp only [Bool.false_eq_true,if_false] at k7
        obtain ⟨m1,m2⟩:=aDT (by rw [hvs,hlen]) k7
        exact RelL.shift _ cs' cs 0 0 Bo (fun k hk=>by
          have:=m1 k (by rw [hvs,← hlen];exact hk)
          rw [this];simp) m2
    · have e:=(k2 c hc).1
      rcases (hs2.own c (by rw [e];simp)).2 with g | ⟨m,g,_⟩
      · exact (g.elim id False.elim:Γ.nww c)
      · rw [e] at g;cases g
  cases e with
  | normal=>exact fin hq
  | ret=>exact fin hq
  | exit id=>exact hq.elim
  | goto l=>exact hq.elim
  | panic ch=>exact hq.elim
  | outgrown=>exact hq.elim
end Go.Ev
namespace Go.Ev
section
variable {α β:Type}
theorem aGP {l:List α} {n:Nat} (h:l.length=n+1):∃ a r,l=a::r∧r.length=n:=by
  cases l with
  | nil=>simp at h
  | cons a r=>exact ⟨a,r,rfl,by simpa using h⟩
theorem aIA {l:List α} (h:l.length=0):l=[]:=List.length_eq_zero_iff.1 h
theorem dY {l:List α} {c:Nat} {p q:α} (h:l[c]?=some p):(l.set c q)[c]?=some q:=by
  have:=(List.getElem?_eq_some_iff.1 h).1
  simp [this]
theorem gF {l:List α} {c:Nat} {p q:α} (h:l[c]?=some p):((l.set c q).drop c).take 1=[q]:=by
  have hl:=(List.getElem?_eq_some_iff.1 h).1
  have hl':c < (l.set c q).length:=by simpa using hl
  rw [List.drop_eq_getElem_cons hl']
  simp
theorem gG {l:List α} {c:Nat} {p q q':α} (h:l[c]?=some p):(l.set c q).take c++[q']++(l.set c q).drop (c+1)=l.set c q':=by
  have hl:=(List.getElem?_eq_some_iff.1 h).1
  have e:=List.set_eq_take_append_cons_drop (l:=l.set c q) (i:=c) (a:=q')
  rw [if_pos (by simpa using hl),List.set_set] at e
  rw [e];simp
theorem bJ {l:List α} {enc:α→List PV} {j:Int} {y:α} {sz c:Nat} {q:PV} {dp bx:Bool} (hl:idx l j=some y) (h:∀ y,(enc y).length=sz) (h0:0 < sz):Nat.blt 0 (Ob.mk ((l.flatMap enc).set c q) dp bx).cells.length=true:=by
  have:=bS (dp:=dp) (bx:=bx) hl h h0
  simp only [List.length_set] at this ⊢;exact this
theorem dJ {l x:List α} {enc:α→List PV} {j:Int} {y y':α} {sz o:Nat} {w:Value} {q:PV} (hx:bH (dD l j y')=some x) (hl:idx l j=some y) (h:∀ y,(enc y).length=sz) (ho:o+1≤sz) (he:(enc y).take o++[q]++(enc y).drop (o+1)=enc y') :
    SoftL ((l.flatMap enc).set (j.toNat*sz+o) (.was w q)) (x.flatMap enc):=by
  have e:=iB (n:=1) hx hl h ho he
  have hlen:=jQ (n:=1) hl h ho
  have hlen:=Nat.le_of_ble_eq_true hlen
  rw [← e,List.set_eq_take_append_cons_drop,if_pos (by omega)]
  rw [List.append_assoc]
  exact SoftL.app (SoftL.refl _) (SoftL.cons Soft.was (SoftL.refl _))
end
end Go.Ev
/- The engine, part II: laws that write what they have made: parameters that sleep. -/
namespace Go.Ev
open Go.RowKit (Below)
section
variable {P:Program} {N:Nat} {Γ:Ctx P N} {S:List (Nat × Slot)} {O:List (Nat × Option Ob)} {ow:Nat→Own} {β:Nat→Option (Option Nat)} {F:Env} {a:Act} {w:World}
theorem aHe:∀ {a:List Value} {b:List PV},a.length=b.length→(wz a b).length=b.length
  | [],[],_=>rfl
  | x::a,y::b,h=>by simp [wz,aHe (a:=a) (b:=b) (by simpa using h)]
  | [],_::_,h=>by simp at h
  | _::_,[],h=>by simp at h
theorem CodeT.exposeAll {code:Code} {Q:Exit→Env→Prop} (l:Nat) {cells:List PV} {dp bx:Bool} (ho:loq O l=some ⟨cells,dp,bx⟩) (hne:Nat.blt 0 cells.length=true)
    (h:∀ vs:List Value,vs.length=cells.length→CodeT Γ code ⟨S,(l,some ⟨wz vs cells,dp,bx⟩)::O⟩ Q):CodeT Γ code ⟨S,O⟩ Q:=by
  rintro a w ⟨ow,β,hs⟩
  have ho':lo (Env.mk S O).o l=some ⟨cells,dp,bx⟩:=by rw [← cX];exact ho
  have hne:=(aZ _ _).1 hne
  obtain ⟨B,o1,o2,o3⟩:=hs.objs l _ ho'
  rcases o3 with ⟨_,e2,_⟩ | ⟨b,cs,t,e1,e2,e3,e4⟩
  · simp only at e2;subst e2;simp at hne
  · have hlen:=RelL.length _ _ _ _ (Nat.zero_le _) e4
    simp only [Nat.zero_add] at hlen
    have hvl:(cs.toList.take cells.length).length=cells.length:=by rw [List.length_take];simp;omega
    refine h (cs.toList.take cells.length) hvl a w ⟨ow,β,{ size:=hs.size,defers:=hs.defers,kept:=hs.kept,slots:=hs.slots,objs:=fun m ob hm=>?_,gone:=fun m hm=>?_,own:=hs.own,ios:=fun m b hm hx=>?_,fresh:=hs.fresh }⟩
    · simp only [aW] at hm
      by_cases hml:l=m
      · subst hml
        rw [if_pos rfl] at hm;cases hm
        refine ⟨_,o1,o2,.inr ⟨b,cs,t,e1,e2,e3,aAt hvl (fun k hk=>?_) e4⟩⟩
        rw [hvl] at hk
        rw [List.getElem?_take,if_pos hk];simp
      · rw [if_neg hml] at hm;exact hs.objs m ob hm
    · simp only [aW] at hm
      by_cases hml:l=m
      · rw [if_pos hml] at hm;cases hm
      · rw [if_neg hml] at hm;exact hs.gone m hm
    · simp only [aW] at hx
      by_cases hml:l=m
      · subst hml;exact hs.ios l b hm (by rw [ho'];rfl)
      · rw [if_neg hml] at hx;exact hs.ios m b hm hx
def OldL (Γ:Ctx P N):List Value→List PV→Prop
  | v::vs,p::ps=>OldF Γ v p∧OldL Γ vs ps
  | [],[]=>True
  | _,_=>False
theorem OldL.of {Γ:Ctx P N} (hB:∀ b,Γ.ok b→b < Γ.base→True):∀ {ps:List PV} {vs:List Value} {cs:Array Value} {i:Nat} {B:List Nat},vs.length=ps.length→(∀ k,k < vs.length→cs[i+k]?=vs[k]?)→eN ps=true→RelL Γ.w0.heap true dead ps cs i B→(∀ b ∈ B,Γ.ok b∧b < Γ.base∧(¬Γ.mine b∧¬Γ.lent b)∧∀ l,Γ.io l≠some b)→OldL Γ vs ps
  | [],[],_,_,_,_,_,_,_,_=>trivial
  | p::ps,v::vs,cs,i,B,hl,hk,hn,H,hb=>by
    simp only [RelL] at H
    obtain ⟨c,O1,O2,h1,h2,h3,rfl⟩:=H
    have h0:=hk 0 (by simp)
    simp only [Nat.add_zero,List.getElem?_cons_zero] at h0
    rw [h1.1] at h0;injection h0 with h0
    subst h0
    refine ⟨⟨jA hn p (by simp),O1,h2,fun b hb'=>hb b (by simp [hb'])⟩,?_⟩
    refine OldL.of hB (by simpa using hl) (fun k hk'=>?_) ?_ h3 (fun b hb'=>hb b (by simp [hb']))
    · have:=hk (k+1) (by simpa using hk')
      rw [show i+1+k=i+(k+1) by omega,this];simp
    · simp only [eN,Bool.and_eq_true] at hn;exact hn.2
  | [],_::_,_,_,_,hl,_,_,_,_=>by simp at hl
  | _::_,[],_,_,_,hl,_,_,_,_=>by simp at hl
theorem CodeT.openAgg {code:Code} {Q:Exit→Env→Prop} (k:Nat) {c:Value} {cells:List PV} {dp:Bool} (hk:lkq S k=some ⟨.was c (.agg cells),dp⟩) (hf:OldF Γ c (.agg cells)) (hn:eN cells=true)
    (h:∀ vs:List Value,vs.length=cells.length→OldL Γ vs cells→CodeT Γ code ⟨(k,⟨.agg (wz vs cells),false⟩)::S,O⟩ Q):CodeT Γ code ⟨S,O⟩ Q:=by
  rintro a w ⟨ow,β,hs⟩
  obtain ⟨hl,B,hB1,hB2⟩:=hf
  simp only [RelV] at hB1
  obtain ⟨cs,rfl,hsz,hrel⟩:=hB1
  have hvl:cs.toList.length=cells.length:=by simpa using hsz
  refine h cs.toList hvl (OldL.of (fun _ _ _=>trivial) hvl (fun k hk=>by simp) hn hrel hB2) a w ⟨ow,β,{ size:=hs.size,defers:=hs.defers,kept:=hs.kept,slots:=fun j=>?_,objs:=hs.objs,gone:=hs.gone,own:=hs.own,ios:=hs.ios,fresh:=hs.fresh }⟩
  simp only [cN]
  by_cases hj:k=j
  · subst hj
    rw [if_pos rfl]
    obtain ⟨B',g1,g2,_⟩:=hs.slots k
    simp only [dX hk,RelV] at g1
    obtain ⟨e1,cs',e2,e3,e4⟩:=g1
    rw [e1] at e2;injection e2 with e2;subst e2
    refine ⟨B',?_,g2,by simp⟩
    simp only [RelV]
    rw [e1]
    exact ⟨cs,rfl,by rw [aHe hvl];exact e3,aAt hvl (fun k hk=>by simp) e4⟩
  · rw [if_neg hj];exact hs.slots j
theorem Ent.sleepO (l:Nat) {ws:List PV} {dp:Bool} (ho:loq O l=some ⟨ws,dp,false⟩) (ha:lL ws=true):Ent Γ ⟨S,O⟩ ⟨S,(l,some ⟨ws.map slp,true,false⟩)::O⟩:=by
  rintro a w ⟨ow,β,h⟩
  have ho':lo (Env.mk S O).o l=some ⟨ws,dp,false⟩:=by rw [← cX];exact ho
  refine ⟨ow,β,{ size:=h.size,defers:=h.defers,kept:=h.kept,slots:=h.slots,objs:=fun m ob hm=>?_,gone:=fun m hm=>?_,own:=h.own,ios:=fun m b hm hs=>?_,fresh:=h.fresh }⟩
  · simp only [aW] at hm
    by_cases hml:l=m
    · subst hml
      rw [if_pos rfl] at hm;cases hm
      obtain ⟨B,o1,o2,o3⟩:=h.objs l _ ho'
      refine ⟨[],by simp,by simp,?_⟩
      rcases o3 with ⟨e1,e2,_⟩ | ⟨b,cs,t,e1,e2,e3,e4⟩
      · simp only at e2;subst e2;exact .inl ⟨e1,rfl,rfl⟩
      · exact .inr ⟨b,cs,t,e1,e2,e3,aHM ha e4⟩
    · rw [if_neg hml] at hm;exact h.objs m ob hm
  · simp only [aW] at hm
    by_cases hml:l=m
    · rw [if_pos hml] at hm;cases hm
    · rw [if_neg hml] at hm;exact h.gone m hm
  · simp only [aW] at hs
    by_cases hml:l=m
    · subst hml;exact h.ios l b hm (by rw [ho'];rfl)
    · rw [if_neg hml] at hs;exact h.ios m b hm hs
theorem OldL.wake {ow:Nat→Own} {β:Nat→Option (Option Nat)} {E:Env} {a:Act} {w:World} (h:SimG Γ ow β E a w):∀ {vs:List Value} {ps:List PV} {cs:Array Value} {i:Nat},OldL Γ vs ps→RelL w.heap true dead (vs.map .sc) cs i []→∃ B,RelL w.heap true dead (wz vs ps) cs i B∧∀ b ∈ B,Im Γ ow w b
  | [],[],cs,i,_,_=>⟨[],by simp [wz,RelL],by simp⟩
  | v::vs,p::ps,cs,i,ho,H=>by
    obtain ⟨⟨hl,B1,hB1,hB2⟩,ho⟩:=ho
    simp only [List.map_cons,RelL,RelV] at H
    obtain ⟨c,O1,O2,h1,⟨h2,rfl⟩,h3,h4⟩:=H
    have:O2=[]:=by simpa using h4.symm
    subst this
    obtain ⟨B2,g1,g2⟩:=OldL.wake h ho h3
    refine ⟨B1++B2,?_,fun b hb=>?_⟩
    · simp only [wz,RelL,RelV]
      refine ⟨c,B1,B2,h1,⟨h2,?_⟩,g1,rfl⟩
      rw [h2]
      exact RelV.keep _ _ _ (fun l hl'=>by rw [hl] at hl';cases hl') (fun b hb=>by obtain ⟨_,e2,e3,e4⟩:=hB2 b hb;exact h.kept.old b e2 e4 e3.1) hB1
    · rcases List.mem_append.1 hb with hb | hb
      · obtain ⟨e1,e2,e3,e4⟩:=hB2 b hb
        refine ⟨Nat.lt_of_lt_of_le e2 h.kept.size,.inl e1,fun l e=>?_⟩
        rcases (h.own b (by rw [e];simp)).2 with g | ⟨m,_,g⟩
        · rcases g with (g | g) | g
          · omega
          · exact e3.1 g
          · exact e3.2 g
        · exact e4 m g
      · exact g2 b hb
  | [],_::_,_,_,ho,_=>ho.elim
  | _::_,[],_,_,ho,_=>ho.elim
theorem Ent.wakeO (l:Nat) {vs:List Value} {cells:List PV} {dp:Bool} (ho:loq O l=some ⟨vs.map .sc,dp,false⟩) (hf:OldL Γ vs cells):Ent Γ ⟨S,O⟩ ⟨S,(l,some ⟨wz vs cells,false,false⟩)::O⟩:=by
  rintro a w ⟨ow,β,h⟩
  have ho':lo (Env.mk S O).o l=some ⟨vs.map .sc,dp,false⟩:=by rw [← cX];exact ho
  refine ⟨ow,β,{ size:=h.size,defers:=h.defers,kept:=h.kept,slots:=h.slots,objs:=fun m ob hm=>?_,gone:=fun m hm=>?_,own:=h.own,ios:=fun m b hm hs=>?_,fresh:=h.fresh }⟩
  · simp only [aW] at hm
    by_cases hml:l=m
    · subst hml
      rw [if_pos rfl] at hm;cases hm
      obtain ⟨B,o1,o2,o3⟩:=h.objs l _ ho'
      rcases o3 with ⟨e1,e2,_⟩ | ⟨b,cs,t,e1,e2,e3,e4⟩
      · have:vs=[]:=by simpa using e2
        subst this
        cases cells with
        | nil=>exact ⟨[],(fun _ h=>by cases h),(fun h=>by cases h),.inl ⟨e1,rfl,rfl⟩⟩
        | cons p r=>exact hf.elim
      · simp only [Bool.false_eq_true,if_false] at e4
        have hB:B=[]:=by
          have:∀ (vs:List Value) (i:Nat) (B:List Nat),RelL w.heap true dead (vs.map .sc) cs i B→B=[]:=by
            intro vs
            induction vs with
            | nil=>intro i B H;simpa [RelL] using H
            | cons v vs ih =>
              intro i B H
              simp only [List.map_cons,RelL,RelV] at H
              obtain ⟨_,_,_,_,⟨_,rfl⟩,h3,rfl⟩:=H
              rw [ih _ _ h3]
          exact this _ _ _ e4
        subst hB
        obtain ⟨B2,g1,g2⟩:=OldL.wake h hf e4
        exact ⟨B2,g2,(fun h=>by cases h),.inr ⟨b,cs,t,e1,e2,e3,by simpa using g1⟩⟩
    · rw [if_neg hml] at hm;exact h.objs m ob hm
  · simp only [aW] at hm
    by_cases hml:l=m
    · rw [if_pos hml] at hm;cases hm
    · rw [if_neg hml] at hm;exact h.gone m hm
  · simp only [aW] at hs
    by_cases hml:l=m
    · subst hml;exact h.ios l b hm (by rw [ho'];rfl)
    · rw [if_neg hml] at hs;exact h.ios m b hm hs
end
end Go.Ev
/- The engine, part JJ: rows that become values as they are made. -/
namespace Go.Ev
open Go.RowKit (Below)
section
variable {P:Program} {N:Nat} {Γ:Ctx P N} {S:List (Nat × Slot)} {O:List (Nat × Option Ob)} {ow:Nat→Own} {β:Nat→Option (Option Nat)} {F:Env} {a:Act} {w:World}
theorem Ent.freezeW {k l s n:Nat} {cells:List PV} {dp dp0:Bool} (hk:lkq S k=some ⟨.ref l s 0 n,dp0⟩) (ho:loq O l=some ⟨cells,dp,false⟩) (hio:Γ.io l=none) (hN:Nat.blt k N=true) :
    Ent Γ ⟨S,O⟩ ⟨(k,⟨.rw s n cells,dp⟩)::S,(l,none)::O⟩:=by
  rintro a w ⟨ow,β,h⟩
  obtain ⟨B,h1,_,_⟩:=h.slots k
  rw [dX hk] at h1
  simp only [RelV] at h1
  have ho':lo (Env.mk S O).o l=some ⟨cells,dp,false⟩:=by rw [← cX];exact ho
  obtain ⟨Bo,o1,o2,hob⟩:=h.objs l _ ho'
  have hkN:=(aZ _ _).1 hN
  rcases hob with ⟨p1,p2,p3⟩ | ⟨b,cs,t,p1,p2,p3,p4⟩
  · obtain ⟨rfl,_,e⟩:=h1.2.1 p1
    simp only at p2;subst p2;subst p3
    obtain ⟨ow',h'⟩:=h.toSlot ho' hio hkN (v:=.rw s 0 []) (c:=a.tmps.getD k undef) (B:=[]) (dp:=dp) (by simp only [RelV];exact .inl ⟨trivial,trivial,trivial,e⟩) (by simp) (by simp) rfl
    rw [aAw] at h'
    exact ⟨_,_,h'⟩
  · obtain ⟨cap,cs',t',q1,q2,q3,q4⟩:=h1.2.2 b p1
    simp only [Nat.zero_mul] at q1
    rw [p3] at q2;cases q2
    obtain ⟨ow',h'⟩:=h.toSlot ho' hio hkN (v:=.rw s n cells) (c:=a.tmps.getD k undef) (B:=b::Bo) (dp:=dp) (by
        simp only [RelV];exact .inr ⟨b,cap,cs,t,Bo,⟨q1,q4,by simpa using q3⟩,p3,p4,rfl⟩) (fun c hc=>by
        rcases List.mem_cons.1 hc with rfl | hc
        · exact .inr p2
        · exact .inl (o1 c hc)) (fun hx=>by
        obtain ⟨e1,e2⟩:=o2 hx
        refine ⟨List.nodup_cons.2 ⟨fun hb=>(by have:=(e2 b hb).1;rw [p2] at this;cases this),e1⟩,fun c hc=>?_⟩
        rcases List.mem_cons.1 hc with rfl | hc
        · exact ⟨.inr p2,_,_,p3⟩
        · exact ⟨.inl (e2 c hc).1,(e2 c hc).2⟩) rfl
    rw [aAw] at h'
    exact ⟨_,_,h'⟩
theorem aIz {s S:List (Nat × Slot)} {k:Nat} {v:Slot} (h:lkq s k=some v):lkq (s++S) k=some v:=by
  induction s with
  | nil=>cases h
  | cons x r ih =>
    obtain ⟨j,u⟩:=x
    simp only [lkq,List.cons_append] at h ⊢
    cases hb:Nat.beq j k with
    | true=>rw [hb] at h;exact h
    | false=>rw [hb] at h;exact ih h
theorem aIy {s S:List (Nat × Option Ob)} {k:Nat} {v:Ob} (h:loq s k=some v):loq (s++S) k=some v:=by
  induction s with
  | nil=>cases h
  | cons x r ih =>
    obtain ⟨j,u⟩:=x
    simp only [loq,List.cons_append] at h ⊢
    cases hb:Nat.beq j k with
    | true=>rw [hb] at h;exact h
    | false=>rw [hb] at h;exact ih h
theorem Local.frz {o:Oper} {ss:List (Nat × Slot)} {us:List (Nat × Option Ob)} {rs ro nl:List Nat} (k:Nat) {l s n:Nat} {cells:List PV} {dp dp0:Bool} (h:Local Γ o ⟨S,O⟩ ⟨ss,us⟩ rs ro nl) (hk:lkq ss k=some ⟨.ref l s 0 n,dp0⟩) (ho:loq us l=some ⟨cells,dp,false⟩)
    (hio:Γ.io l=none) (hN:Nat.blt k N=true):Local Γ o ⟨S,O⟩ ⟨(k,⟨.rw s n cells,dp⟩)::ss,(l,none)::us⟩ rs ro nl:=by
  intro F h1 h2 h3 a w hsim Q
  exact Oper.wp_mono (fun a' w' h'=>Ent.freezeW (aIz hk) (aIy ho) hio hN a' w' h') (h F h1 h2 h3 a w hsim Q)
end
end Go.Ev
/- The engine, part KK: a law's rest, begun anew: what there is by then is old. -/
namespace Go.Ev
open Go.RowKit (Below)
def aEl:List (Nat × Slot)→Bool
  | []=>true
  | (_,s)::r=>!s.deep&&aEl r
def yM:List (Nat × Option Ob)→Bool
  | []=>true
  | (_,none)::r=>yM r
  | (_,some ob)::r=>(!ob.deep||eV ob.cells)&&yM r
theorem aDE:∀ {s:List (Nat × Slot)} (k:Nat),aEl s=true→(lk s k).deep=false
  | [],k,_=>rfl
  | (j,v)::r,k,h=>by
    simp only [aEl,Bool.and_eq_true,Bool.not_eq_true'] at h
    rw [cN]
    by_cases hj:j=k
    · rw [if_pos hj];exact h.1
    · rw [if_neg hj];exact aDE k h.2
theorem zX:∀ {s:List (Nat × Option Ob)} {l:Nat} {ob:Ob},yM s=true→lo s l=some ob→ob.deep=false∨eV ob.cells=true
  | [],l,ob,_,h=>by simp [lo] at h
  | (j,none)::r,l,ob,hn,h=>by
    rw [aW] at h
    by_cases hj:j=l
    · rw [if_pos hj] at h;cases h
    · rw [if_neg hj] at h;exact zX (s:=r) hn h
  | (j,some o)::r,l,ob,hn,h=>by
    simp only [yM,Bool.and_eq_true,Bool.or_eq_true,Bool.not_eq_true'] at hn
    rw [aW] at h
    by_cases hj:j=l
    · rw [if_pos hj] at h;cases h;exact hn.1
    · rw [if_neg hj] at h;exact zX hn.2 h
section
variable {P:Program} {N:Nat} {Γ:Ctx P N} {S:List (Nat × Slot)} {O:List (Nat × Option Ob)}
end
end Go.Ev
/- The engine, part LL: rows that grow within a struct. -/
namespace Go.Ev
open Go.RowKit (Below)
section
variable {P:Program} {N:Nat} {Γ:Ctx P N} {S:List (Nat × Slot)} {O:List (Nat × Option Ob)}
theorem Ent.nilCell (l L c s:Nat) {cells:List PV} {dp:Bool} (ho:loq O l=some ⟨cells,dp,true⟩) (hc:cells[c]?=some (.sc (.slice none 0 0))) (hL:pY ⟨S,O⟩ L=false) (hne:Nat.beq l L=false) (hio:Γ.io L=none) :
    Ent Γ ⟨S,O⟩ ⟨S,(l,some ⟨cells.set c (.ref L s 0 0),dp,true⟩)::(L,some ⟨[],true,false⟩)::O⟩:=by
  rintro a w ⟨ow,β,h⟩
  have hnl:=NoLab.of_says hL
  have hne:L≠l:=by rintro rfl;simp at hne
  obtain ⟨ow',h'⟩:=h.layNil hnl hio [] [] true false
  have h2:SimG Γ ow' (fun m=>if m=L then some none else if m ∈ ([]:List Nat) then none else β m) ⟨S,(L,some ⟨[],true,false⟩)::O⟩ a w:=h'.congr (fun _=>rfl) (fun _=>rfl)
  have ho2:loq ((L,some ⟨[],true,false⟩)::O) l=some ⟨cells,dp,true⟩:=by
    simp only [loq,nZ,hne,decide_false,cond_false];exact ho
  refine ⟨ow',_,h2.recell ho2 (by rintro rfl;simp at hc) fun cs B H=>?_⟩
  simp only [if_true] at H ⊢
  obtain ⟨v,O1,Oc,O2,q1,q2,q3,q4,q5,rfl⟩:=H.at hc
  simp only [RelV] at q3
  obtain ⟨q3,rfl⟩:=q3
  exact RelL.put hc q1 q2 (by simp only [RelV,if_true];exact ⟨trivial,fun _=>⟨trivial,trivial,q3⟩,fun b e=>by simp at e⟩) q4 q5
end
end Go.Ev
/- The engine, part MM: values handed over for good. -/
namespace Go.Ev
open Go.RowKit (Below)
def yS:List (PV × Bool)→Nat→List (Nat × Slot)
  | [],_=>[]
  | (p,dp)::r,k=>(k,⟨p,dp⟩)::yS r (k+1)
theorem aCZ:∀ (ps:List (PV × Bool)) (i k:Nat),lk (yS ps i) k=if i≤k∧k - i < ps.length then ⟨(ps.getD (k - i) (.any,false)).1,(ps.getD (k - i) (.any,false)).2⟩ else ⟨.any,false⟩
  | [],i,k=>by simp [yS,lk]
  | (p,dp)::r,i,k=>by
    rw [yS,cN,aCZ r (i+1) k]
    by_cases h:i=k
    · subst h;simp
    · rw [if_neg h]
      by_cases h2:i+1≤k∧k - (i+1) < r.length
      · rw [if_pos h2,if_pos (by simp;omega)]
        have:k - i=(k - (i+1))+1:=by omega
        rw [this];simp
      · rw [if_neg h2,if_neg (by simp;omega)]
theorem MeetsD.intro {P:Program} {N:Nat} {f:FuncId} {fn:Func} {c:Code} {args:List (PV × Bool)} {r:PV} {rs:Array ResultVar} (hf:P.funcs[f]?=some fn) (hb:fn.body=some c) (hN:fn.ntmps=N) (hrs:fn.results=rs) (hn:Nat.ble args.length N=true)
    (h:∀ Γ:Ctx P N,(∀ l,Nat.blt l 100000=true→Γ.io l=none)→CodeT Γ c ⟨yS args 0,[]⟩ (wA Γ rs r true)):MeetsD P f args r:=by
  classical
  intro w cargs ok H ha hH hdis
  obtain ⟨h1,h2⟩:=ha.get
  have hn:=Nat.le_of_ble_eq_true hn
  let Γ:Ctx P N:={ base:=w.heap.size,ok:=ok,io:=fun _=>none,w0:=w,mine:=fun _=>False,lent:=fun b=>∃ k,b ∈ H k }
  have hsz:(cargs++Array.replicate (fn.ntmps - cargs.size) undef).size=N:=by
    have:cargs.size=args.length:=by rw [h1];simp
    simp [this,hN];omega
  refine calls_of_wp hf hb ?_
  let ow:Nat→Own:=fun b=>if hh:∃ k,b ∈ H k then .slot hh.choose else .none
  have how:∀ b k,b ∈ H k→ow b=.slot k:=by
    intro b k e
    have hh:∃ k,b ∈ H k:=⟨k,e⟩
    show (if hh:_ then _ else _)=_
    rw [dif_pos hh,hdis _ _ b hh.choose_spec e]
  have hnl:∀ b l,ow b≠.lab l:=by
    intro b l e
    have e:(if hh:∃ k,b ∈ H k then Own.slot hh.choose else .none)=.lab l:=e
    split at e <;> cases e
  have hsim:Sim Γ ⟨yS args 0,[]⟩ { tmps:=cargs++Array.replicate (fn.ntmps - cargs.size) undef,defers:=[] } w:=by
    refine ⟨ow,fun _=>none,{ size:=hsz,defers:=rfl,kept:=⟨rfl,rfl,rfl,Nat.le_refl _,fun _ _ _ _=>rfl,fun b _ _ cs t h=>⟨cs,h,rfl⟩⟩,slots:=fun k=>?_,objs:=fun l ob hl=>(by simp [lo] at hl),gone:=fun _ _=>rfl,own:=fun b hb=>?_,ios:=fun l b hl=>(by cases hl),fresh:=fun l b hl=>(by cases hl) }⟩
    · rw [aCZ]
      by_cases hk:k < args.length
      · rw [if_pos ⟨Nat.zero_le _,by simpa using hk⟩]
        have e1:args[k]?=some (args.getD k (.any,false)):=by
          rw [List.getElem?_eq_getElem hk,List.getD_eq_getElem?_getD,List.getElem?_eq_getElem hk];rfl
        obtain ⟨B,g1,g2,g3⟩:=h2 k _ _ e1
        rw [Nat.zero_add] at g3
        have e:(cargs++Array.replicate (fn.ntmps - cargs.size) undef).getD k undef=cargs.toList.getD k undef:=by
          have hlt:k < cargs.size:=by rw [h1] at hk;simpa using hk
          simp [Array.getD_eq_getD_getElem?,Array.getElem?_append,hlt,List.getD_eq_getElem?_getD]
        simp only [Nat.sub_zero]
        refine ⟨B,?_,fun b hb=>⟨RelV.below _ _ _ g1 b hb,?_,fun l=>hnl b l⟩,fun hd=>?_⟩
        · rw [e]
          exact RelV.keep _ _ _ (fun l _=>by intro ob h;cases h) (fun _ _=>rfl) g1
        · cases hdp:(args.getD k (.any,false)).2 with
          | false=>exact .inl (g2 hdp b hb)
          | true=>exact .inr (.inr ⟨k,by rw [← g3 hdp];exact hb⟩)
        · have g4:=g3 hd
          subst g4
          exact ⟨(hH k).1,fun b hb=>⟨how b k hb,((hH k).2 b hb).2⟩⟩
      · rw [if_neg (by simpa using hk)]
        exact ⟨[],by simp [RelV],by simp,by simp⟩
    · have hh:∃ k,b ∈ H k:=by
        rcases Classical.em (∃ k,b ∈ H k) with hh | hh
        · exact hh
        · exfalso;apply hb;show (if hh:∃ k,b ∈ H k then Own.slot hh.choose else .none)=_;rw [dif_neg hh]
      obtain ⟨k,hk⟩:=hh
      exact ⟨aEu ((hH k).2 b hk).2,.inl (.inr ⟨k,hk⟩)⟩
  refine wp_mono (h Γ (fun _ _=>rfl) _ _ hsim) fun e a' w' ⟨E',hs',hq⟩=>?_
  have fin:RetIs Γ rs E' r true→a'.defers=[]∧∃ v,(results fn a'.tmps).run P w'=.ok v w'∧∃ c B,Ending.returned v=.returned c∧Below w.heap.size w w'∧RelV w'.heap dead r c B∧B.Nodup∧∀ b ∈ B,eW w' b∧(w.heap.size≤b∨∃ k,b ∈ H k):=by
    intro hr
    obtain ⟨c,B,g1,g2,g3,g4⟩:=hr fn hrs a' w' hs'
    obtain ⟨ow2,β2,hs'⟩:=hs'
    obtain ⟨g5,g6⟩:=g4 rfl
    refine ⟨hs'.defers,c,g1,c,B,rfl,⟨hs'.kept.os,hs'.kept.tape,hs'.kept.output,hs'.kept.size,fun k hk=>hs'.kept.old k hk (fun l=>by simp [Γ]) (fun h=>h)⟩,g2,g5,fun b hb=>⟨(g6 b hb).1,?_⟩⟩
    rcases (g6 b hb).2 with (g | g) | g
    · exact .inl g
    · exact g.elim
    · exact .inr g
  cases e with
  | normal=>exact fin hq
  | ret=>exact fin hq
  | exit id=>exact hq.elim
  | goto l=>exact hq.elim
  | panic ch=>exact hq.elim
  | outgrown=>exact hq.elim
section
variable {P:Program} {N:Nat} {Γ:Ctx P N} {S:List (Nat × Slot)} {O:List (Nat × Option Ob)} {ow:Nat→Own} {β:Nat→Option (Option Nat)} {F:Env} {a:Act} {w:World}
variable {d:Nat} {ty:TypeId} {pos:String} {af:Array Edge} {g:Option (Nat × Bool)}
theorem aC3 {f:FuncId} {xs:List Operand} {args:List (PV × Bool)} {k q:Nat} {p r:PV} {dp:Bool} (hsim:SimG Γ ow β F a w) (hk:lk F.s k=⟨p,true⟩) (hm:MeetsD P f args r) (hr:r.labs=[]) (hd:d < N) {Bk:List Nat} (o1:RelV w.heap β p (a.tmps.getD k undef) Bk) (o3:Bk.Nodup∧∀ b ∈ Bk,ow b=.slot k∧eW w b)
    (ha:DArgs w.heap (fun _=>False) (fun j=>if j=q then Bk else []) args (xs.map a.eval) 0) {Q:Exit→Act→World→Prop} :
    Calls P f (xs.map a.eval).toArray w fun e w'=>match e with | .returned c=>Sim Γ (F.app ⟨(d,⟨r,true⟩)::[k].map (fun j=>(j,⟨.any,false⟩)),[]⟩) (a.put (some d) c) w' | _=>False:=by
  obtain ⟨n1,n2⟩:=o3
  refine (hm w (xs.map a.eval).toArray (fun _=>False) (fun j=>if j=q then Bk else []) (by simpa using ha) (fun j=>?_) (fun j j' b hb hb'=>?_)).mono fun e w' ⟨c,B,he,hbel,h1,h2,h3⟩=>?_
  · by_cases hj:j=q
    · rw [if_pos hj];exact ⟨n1,fun b hb=>⟨fun h=>h,(n2 b hb).2⟩⟩
    · rw [if_neg hj];exact ⟨by simp,by simp⟩
  · by_cases hj:j=q
    · by_cases hj':j'=q
      · rw [hj,hj']
      · simp only [if_neg hj'] at hb';cases hb'
    · simp only [if_neg hj] at hb;cases hb
  · subst he
    have hg:=hsim.grow hbel
    have hB:∀ b ∈ B,Im Γ ow w' b:=by
      intro b hb
      have hlt:=RelV.below _ _ _ h1 b hb
      rcases (h3 b hb).2 with e | ⟨j,e⟩
      · exact ⟨hlt,.inr (.inl (.inl (Nat.le_trans hsim.kept.size e))),fun l e'=>by have:=(hsim.own b (by rw [e'];simp)).1;omega⟩
      · by_cases hj:j=q
        · rw [if_pos hj] at e
          obtain ⟨e1,e2⟩:=n2 b e
          refine ⟨hlt,?_,fun l e'=>by rw [e1] at e';cases e'⟩
          rcases (hsim.own b (by rw [e1];simp)).2 with g | ⟨m,g,_⟩
          · exact .inr g
          · rw [e1] at g;cases g
        · rw [if_neg hj] at e;cases e
    have hD:∀ b ∈ B,eW w' b∧Γ.nw b∧(ow b=.none∨∃ k' ∈ [k],ow b=.slot k'):=by
      intro b hb
      refine ⟨(h3 b hb).1,?_⟩
      rcases (h3 b hb).2 with e | ⟨j,e⟩
      · refine ⟨.inl (.inl (Nat.le_trans hsim.kept.size e)),.inl ?_⟩
        cases hx:ow b with
        | none=>rfl
        | _=>have:=(hsim.own b (by rw [hx];simp)).1;omega
      · by_cases hj:j=q
        · rw [if_pos hj] at e
          obtain ⟨e1,_⟩:=n2 b e
          refine ⟨?_,.inr ⟨k,by simp,e1⟩⟩
          rcases (hsim.own b (by rw [e1];simp)).2 with g | ⟨m,g,_⟩
          · exact g
          · rw [e1] at g;cases g
        · rw [if_neg hj] at e;cases e
    obtain ⟨ow',h'⟩:=hg.gather (d:=d) hd [k] (v:=r) (c:=c) (B:=B) (dp:=true) (RelV.nolab hr h1) hB (fun _=>⟨h2,hD⟩)
    exact ⟨ow',β,h'⟩
theorem aH9 {f:FuncId} [hfc:FnC P f] {k:Nat} {tus:Array TypeId} {p r:PV} (hk:lkq S k=some ⟨p,true⟩) (hl:p.labs=[]) (hm:MeetsD P f [(p,true)] r) (hr:r.labs=[]) (hd:Nat.blt d N=true) :
    Local Γ ⟨some d,.call ⟨.value (.func f),#[.tmp k],tus⟩,ty,pos,af,g⟩ ⟨S,O⟩ ⟨[(d,⟨r,true⟩),(k,⟨.any,false⟩)],[]⟩ [k] [] []:=by
  intro F hs _ _ a w ⟨ow,β,hsim⟩ Q
  have hkF:lk F.s k=⟨p,true⟩:=by rw [hs k (by simp),dX hk]
  obtain ⟨Bk,o1,_,o3⟩:=hsim.slots k
  rw [hkF] at o1 o3
  unfold Oper.wp
  have hrun:(execOp a.eval ⟨some d,.call ⟨.value (.func f),#[.tmp k],tus⟩,ty,pos,af,g⟩).run P w=.ok (.enter f #[a.eval (.tmp k)]) w:=by
    simp [execOp,resolve,Act.eval,Deferred.ofValue,invoke,hfc.run]
  rw [hrun]
  show Calls _ _ _ _ _
  refine (aC3 (xs:=[.tmp k]) (q:=0) hsim hkF hm hr ((aZ _ _).1 hd) (dp:=true) o1 (o3 rfl) ⟨?_,trivial⟩ (Q:=Q)).mono fun e w' h=>?_
  · simp only [if_true];exact RelV.nolab hl o1
  · cases e with
    | returned c=>exact h
    | _=>exact h.elim
theorem aH8 {f:FuncId} [hfc:FnC P f] {k:Nat} {y:Operand} {tus:Array TypeId} {p0 p r:PV} (hy:evq S y=some p0) (hn0:kK p0=true) (hl0:p0.labs=[]) (hk:lkq S k=some ⟨p,true⟩) (hl:p.labs=[]) (hm:MeetsD P f [(p0,false),(p,true)] r) (hr:r.labs=[]) (hd:Nat.blt d N=true) :
    Local Γ ⟨some d,.call ⟨.value (.func f),#[y,.tmp k],tus⟩,ty,pos,af,g⟩ ⟨S,O⟩ ⟨[(d,⟨r,true⟩),(k,⟨.any,false⟩)],[]⟩ (ors y++[k]) [] []:=by
  intro F hs _ _ a w ⟨ow,β,hsim⟩ Q
  have hkF:lk F.s k=⟨p,true⟩:=by rw [hs k (by simp),dX hk]
  obtain ⟨Bk,o1,_,o3⟩:=hsim.slots k
  rw [hkF] at o1 o3
  obtain ⟨By,y1,y2⟩:=dO hsim hy (fun j hj=>hs j (by simp [hj]))
  have:=kJ _ hn0 y1
  subst this
  unfold Oper.wp
  have hrun:(execOp a.eval ⟨some d,.call ⟨.value (.func f),#[y,.tmp k],tus⟩,ty,pos,af,g⟩).run P w=.ok (.enter f #[a.eval y,a.eval (.tmp k)]) w:=by
    simp [execOp,resolve,Act.eval,Deferred.ofValue,invoke,hfc.run]
  rw [hrun]
  show Calls _ _ _ _ _
  refine (aC3 (xs:=[y,.tmp k]) (q:=1) hsim hkF hm hr ((aZ _ _).1 hd) (dp:=true) o1 (o3 rfl) ⟨⟨[],RelV.nolab hl0 y1,by simp⟩,?_,trivial⟩ (Q:=Q)).mono fun e w' h=>?_
  · simp only [Nat.zero_add,if_true];exact RelV.nolab hl o1
  · cases e with
    | returned c=>exact h
    | _=>exact h.elim
theorem aIZ {α:Type} {s:Nat} {hi:Option Operand} {t e n by_:Nat} {agg:Bool} {l r:List α} {enc:α→List PV} {j:Int} {len:Nat} [ht:SlT P t e] [hi':TI P e n agg by_] (hx:lkq S s=some ⟨.rw n len (l.flatMap enc),true⟩) (hlen:len=l.length)
    (hhi:sD S len hi=some j) (h:sub l 0 j=some r) (hsz:∀ y,(enc y).length=n) (hnl:∀ y,eN (enc y)=true) (hd:Nat.blt d N=true) :
    Local Γ ⟨some d,.slice t (.tmp s) none hi none,ty,pos,af,g⟩ ⟨S,O⟩ ⟨[(d,⟨.rw n r.length (r.flatMap enc),true⟩),(s,⟨.any,false⟩)],[]⟩ ([s]++aEi hi) [] []:=by
  intro F hs _ _
  refine bN fun a w hsim0=>?_
  obtain ⟨hb,hr⟩:=aJz h
  subst hlen
  have hbd:=fun isS cap hc=>aCo (lo:=none) (i:=0) hsim0 isS l.length cap hc rfl hhi (fun k hk=>by simp [aEi] at hk) (fun k hk=>hs k (by simp [hk])) hb
  obtain ⟨ow,β,hsim⟩:=hsim0
  have hkF:lk F.s s=⟨.rw n l.length (l.flatMap enc),true⟩:=by rw [hs s (by simp),dX hx]
  obtain ⟨B,h1,h2,h3⟩:=hsim.slots s
  rw [hkF] at h1 h3
  obtain ⟨nd,h3⟩:=h3 rfl
  simp only [RelV] at h1
  have hr':r=l.take j.toNat:=by rw [hr];simp
  have run:∀ (ad:Option Addr) (cap:Nat),a.eval (.tmp s)=.slice ad l.length cap→l.length≤cap→(Instr.sliceAt t (a.eval (.tmp s)) none (hi.map a.eval) none).run P w=.ok (.slice (if cap=0 then ad else ad.map (·.add 0)) j.toNat cap) w:=by
    intro ad cap e1 hc
    rw [e1]
    have:=hbd true cap hc
    simp only [Option.map_none] at this
    simp [Instr.sliceAt,Instr.slice,run_underlying ht.ok,this,aCm (e:=e) (n:=n)]
  have hval:a.eval (.tmp s)=a.tmps.getD s undef:=rfl
  rcases h1 with ⟨e0,_,_,e1⟩ | ⟨b,cap,cs,u,B',⟨e1,hc,hcap⟩,e2,e3,rfl⟩
  · rw [← hval] at e1
    have e1':a.eval (.tmp s)=.slice none l.length 0:=by rw [e1,e0]
    have hj:j.toNat=0:=by omega
    have hr0:r=[]:=by rw [hr',hj];simp
    subst hr0
    obtain ⟨ow',h'⟩:=hsim.gather (d:=d) ((aZ _ _).1 hd) [s] (v:=.rw n 0 []) (c:=.slice none 0 0) (B:=[]) (dp:=true) (by simp only [RelV];exact .inl ⟨trivial,trivial,trivial,trivial⟩) (by simp) (fun _=>⟨by simp,by simp⟩)
    refine ⟨.slice none 0 0,w,?_,ow',β,h'⟩
    simp only [execOp,Option.map_none]
    rw [Sem.run_bind,run none 0 e1' (by omega)]
    simp [hj,Result.andThen]
  · rw [← hval] at e1
    have hsplit:l.flatMap enc=r.flatMap enc++(l.drop j.toNat).flatMap enc:=by rw [hr',← List.flatMap_append,List.take_append_drop]
    rw [hsplit] at e3
    obtain ⟨O1,O2,q1,q2,rfl⟩:=(RelL.append _ _ _ _ _).1 e3
    have nd1:=List.nodup_cons.1 nd
    have nd2:=List.nodup_append.1 nd1.2
    have hrl:r.length=j.toNat:=by rw [hr',List.length_take];omega
    obtain ⟨ow',h'⟩:=hsim.gather (d:=d) ((aZ _ _).1 hd) [s] (v:=.rw n r.length (r.flatMap enc)) (c:=.slice (some ⟨b,0,none⟩) r.length cap) (B:=b::O1) (dp:=true) (by
        simp only [RelV];exact .inr ⟨b,cap,cs,u,O1,⟨rfl,by omega,hcap⟩,e2,q1,rfl⟩)
      (fun c hc=>h2 c (by rcases List.mem_cons.1 hc with rfl | hc;simp;simp [hc]))
      (fun _=>⟨List.nodup_cons.2 ⟨fun hb'=>nd1.1 (by simp [hb']),nd2.1⟩,fun c hc=>by
        have hm:c ∈ b::(O1++O2):=by rcases List.mem_cons.1 hc with rfl | hc;simp;simp [hc]
        obtain ⟨g1,g2⟩:=h3 c hm
        refine ⟨g2,?_,.inr ⟨s,by simp,g1⟩⟩
        rcases (hsim.own c (by rw [g1];simp)).2 with g | ⟨m,g,_⟩
        · exact g
        · rw [g1] at g;cases g⟩)
    refine ⟨.slice (some ⟨b,0,none⟩) r.length cap,w,?_,ow',β,h'⟩
    simp only [execOp,Option.map_none]
    rw [Sem.run_bind,run (some ⟨b,0,none⟩) cap e1 hc,hrl]
    simp [Result.andThen,Addr.add]
theorem RelL.atQ {h:Array Obj} {q:Bool} {β:Nat→Option (Option Nat)}:∀ {vs:List PV} {cs:Array Value} {i:Nat} {O:List Nat} {k:Nat} {p:PV},RelL h q β vs cs i O→vs[k]?=some p→∃ v O1 Oc O2,cs[i+k]?=some v∧RelV h β p v Oc∧O=O1++(Oc++O2)∧RelL h q β (vs.set k .any) cs i (O1++O2)
  | [],_,_,_,_,_,_,hk=>by simp at hk
  | p0::vs,cs,i,O,k,p,H,hk=>by
    simp only [RelL] at H
    obtain ⟨c,B1,B2,h1,h2,h3,rfl⟩:=H
    cases k with
    | zero =>
      simp at hk;subst hk
      refine ⟨c,[],B1,B2,by simpa using h1.1,h2,by simp,?_⟩
      simp only [List.set_cons_zero,RelL,RelV,List.nil_append]
      exact ⟨c,[],B2,h1,rfl,h3,rfl⟩
    | succ k =>
      obtain ⟨v,O1,Oc,O2,g1,g2,g3,g4⟩:=RelL.atQ h3 (by simpa using hk)
      refine ⟨v,B1++O1,Oc,O2,by rw [← g1];congr 1;omega,g2,by rw [g3];simp,?_⟩
      simp only [List.set_cons_succ,RelL]
      exact ⟨c,B1,O1++O2,h1,h2,g4,by simp⟩
theorem aJq {s i:Nat} {vs:List PV} {p:PV} (hx:lkq S s=some ⟨.tup vs,true⟩) (hp:vs[i]?=some p) (hl:p.labs=[]) (hne:Nat.beq s d=false) (hd:Nat.blt d N=true) :
    Local Γ ⟨some d,.extract (.tmp s) i,ty,pos,af,g⟩ ⟨S,O⟩ ⟨[(d,⟨p,true⟩),(s,⟨.tup (vs.set i .any),true⟩)],[]⟩ [s] [] []:=by
  classical
  intro F hs _ _
  refine bN fun a w ⟨ow,β,h⟩=>?_
  have hne:s≠d:=by rintro rfl;simp at hne
  have hdN:=(aZ _ _).1 hd
  obtain ⟨O0,hv,hO,hdp⟩:=h.slots s
  rw [hs s (by simp),dX hx] at hv hdp
  obtain ⟨nd,hdp⟩:=hdp rfl
  simp only [RelV] at hv
  obtain ⟨cs,e1,e2,e3⟩:=hv
  obtain ⟨v,O1,Oc,O2,g1,g2,rfl,g4⟩:=e3.atQ hp
  rw [Nat.zero_add] at g1
  have nd1:=List.nodup_append.1 nd
  have nd2:=List.nodup_append.1 nd1.2.1
  let ow':Nat→Own:=fun b=>if b ∈ Oc then .slot d else ow b
  have hIm:∀ b,Im Γ ow w b→Im Γ ow' w b:=by
    intro b ⟨h1,h2,h3⟩
    refine ⟨h1,h2,fun l=>?_⟩
    show (if _ then _ else _)≠_
    split
    · simp
    · exact h3 l
  have hoc:∀ b ∈ Oc,ow b=.slot s:=fun b hb=>(hdp b (by simp [hb])).1
  have hkp:∀ b x,ow b=x→x≠.slot s→ow' b=x:=by
    intro b x e hx
    show (if _ then _ else _)=_
    rw [if_neg (fun hb=>hx (by rw [← e];exact hoc b hb))];exact e
  have hval:a.eval (.tmp s)=.tuple cs:=e1
  refine ⟨v,w,by simp [execOp,hval,Instr.extract,g1],ow',β,{ size:=by simp [Act.put,h.size],defers:=by simp [Act.put,h.defers],kept:=h.kept,slots:=fun k=>?_,objs:=fun l ob hl=>?_,gone:=by simpa [Env.app] using h.gone,own:=fun b hb=>?_,ios:=by simpa [Env.app] using h.ios,fresh:=h.fresh }⟩
  · simp only [Env.app,List.cons_append,List.nil_append,cN,Act.put]
    by_cases hk:d=k
    · subst hk
      rw [if_pos rfl,iQ (by rw [h.size];exact hdN)]
      exact ⟨Oc,g2,fun b hb=>hIm b (hO b (by simp [hb])),fun _=>⟨nd2.1,fun b hb=>⟨by show (if _ then _ else _)=_;rw [if_pos hb],(hdp b (by simp [hb])).2⟩⟩⟩
    · rw [if_neg hk,qQ hk]
      by_cases hks:s=k
      · subst hks
        rw [if_pos rfl]
        refine ⟨O1++O2,?_,fun b hb=>hIm b (hO b (by rcases List.mem_append.1 hb with hb | hb <;> simp [hb])),fun _=>⟨?_,fun b hb=>⟨?_,(hdp b (by rcases List.mem_append.1 hb with hb | hb <;> simp [hb])).2⟩⟩⟩
        · rw [e1]
          simp only [RelV]
          exact ⟨cs,rfl,by simpa using e2,g4⟩
        · exact List.nodup_append.2 ⟨nd1.1,nd2.2.1,fun x hx y hy=>nd1.2.2 x hx y (by simp [hy])⟩
        · show (if _ then _ else _)=_
          rw [if_neg]
          · exact (hdp b (by rcases List.mem_append.1 hb with hb | hb <;> simp [hb])).1
          · intro hc
            rcases List.mem_append.1 hb with hb | hb
            · exact nd1.2.2 b hb b (by simp [hc]) rfl
            · exact nd2.2.2 b hc b hb rfl
      · rw [if_neg hks]
        obtain ⟨O',q1,q2,q3⟩:=h.slots k
        exact ⟨O',q1,fun b hb=>hIm b (q2 b hb),fun hx=>⟨(q3 hx).1,fun b hb=>⟨hkp b _ ((q3 hx).2 b hb).1 (by intro e;injection e with e;exact hks e.symm),((q3 hx).2 b hb).2⟩⟩⟩
  · simp only [Env.app,List.nil_append] at hl
    obtain ⟨O',q1,q2,q3⟩:=h.objs l ob hl
    refine ⟨O',fun b hb=>hIm b (q1 b hb),fun hx=>⟨(q2 hx).1,fun b hb=>⟨hkp b _ ((q2 hx).2 b hb).1 (by simp),((q2 hx).2 b hb).2⟩⟩,?_⟩
    rcases q3 with q3 | ⟨b,cs,t,r1,r2,r3,r4⟩
    · exact .inl q3
    · exact .inr ⟨b,cs,t,r1,hkp b _ r2 (by simp),r3,r4⟩
  · by_cases hb':b ∈ Oc
    · have e:=hoc b hb'
      obtain ⟨q1,q2⟩:=h.own b (by rw [e];simp)
      refine ⟨q1,.inl ?_⟩
      rcases q2 with q | ⟨m,q,_⟩
      · exact q
      · rw [e] at q;cases q
    · have e:ow' b=ow b:=by show (if _ then _ else _)=_;rw [if_neg hb']
      rw [e] at hb
      obtain ⟨q1,q2⟩:=h.own b hb
      exact ⟨q1,by rw [e];exact q2⟩
end
end Go.Ev
/- The engine, part NN: the first change of a rule that makes several, softened. -/
namespace Go.Ev
section
variable {P:Program} {N:Nat} {Γ:Ctx P N} {S:List (Nat × Slot)} {O:List (Nat × Option Ob)}
theorem Local.softC {o:Oper} {d:Nat} {p p':PV} {dp:Bool} {ss:List (Nat × Slot)} {us:List (Nat × Option Ob)} {rs ro nl:List Nat} (hs:Soft p p') (h:Local Γ o ⟨S,O⟩ ⟨(d,⟨p,dp⟩)::ss,us⟩ rs ro nl):Local Γ o ⟨S,O⟩ ⟨(d,⟨p',dp⟩)::ss,us⟩ rs ro nl:=by
  intro F h1 h2 h3 a w hsim Q
  refine Oper.wp_mono ?_ (h F h1 h2 h3 a w hsim Q)
  rintro a' w' ⟨ow,β,h'⟩
  refine ⟨ow,β,{ size:=h'.size,defers:=h'.defers,kept:=h'.kept,slots:=fun j=>?_,objs:=h'.objs,gone:=h'.gone,own:=h'.own,ios:=h'.ios,fresh:=h'.fresh }⟩
  obtain ⟨B,g1,g2,g3⟩:=h'.slots j
  simp only [Env.app,List.cons_append,List.nil_append,cN] at g1 g3 ⊢
  by_cases hj:d=j
  · rw [if_pos hj] at g1 g3 ⊢
    exact ⟨B,hs _ _ _ _ g1,g2,g3⟩
  · rw [if_neg hj] at g1 g3 ⊢
    exact ⟨B,g1,g2,g3⟩
end
end Go.Ev
/- The engine, part OO: short forms: a rule and the step that uses it in one (printed by mkoo.py). -/
namespace Go.Ev
section
variable {P:Program} {N:Nat} {Γ:Ctx P N} {S S':List (Nat × Slot)} {O O':List (Nat × Option Ob)}
theorem dn {ops:List Oper} {X:List Item→Prop} {Q:Env→Prop} {acc:List Item} {E:Env} (h:Q E):Run Γ ops (fun items E'=>(false=true→X items)∧Q E') [] acc E:=.done ⟨fun h=>Bool.noConfusion h,h⟩
theorem sq {x y:Code} {E:Env} {Q:Exit→Env→Prop} (h:CodeT Γ x E (rU (fun E'=>CodeT Γ y E' Q) Q)):CodeT Γ (.seq x y) E Q:=CodeT.seq h
def aEI (S:List (Nat × Slot)):List (Nat × Slot)→List (Option PV)
  | []=>[]
  | (k,_)::r=>(lkq S k).map (·.v)::aEI S r
def aEH (ρ:List (Nat × Nat)):List (Nat × Slot)→List (Option PV)
  | []=>[]
  | (_,sl)::r=>some (aIs ρ sl.v)::aEH ρ r
def aFp (S:List (Nat × Slot)):List (Nat × Slot)→Bool
  | []=>true
  | (k,sl)::r=>(match sl.deep with | true=>(match lkq S k with | some s=>s.deep | none=>false) | false=>true)&&aFp S r
theorem EntS.fast {ρ:List (Nat × Nat)}:∀ {S':List (Nat × Slot)},aEI S S'=aEH ρ S'→aFp S S'=true→EntS ρ S S'
  | [],_,_=>trivial
  | (k,sl)::r,h1,h2=>by
    simp only [aEI,aEH,List.cons.injEq] at h1
    simp only [aFp,Bool.and_eq_true] at h2
    refine ⟨?_,EntS.fast h1.2 h2.2⟩
    cases hs:lkq S k with
    | none=>rw [hs] at h1;simp at h1
    | some s =>
      rw [hs] at h1 h2
      refine ⟨s.deep,?_,fun hd=>?_⟩
      · have:=h1.1;simp only [Option.map_some,Option.some.injEq] at this;rw [← this]
      · have:=h2.1;rw [hd] at this;simpa using this
def aB5 (ρ:List (Nat × Nat)) (O:List (Nat × Option Ob)):List (Nat × Option Ob)→List (Option (List PV × Bool))
  | []=>[]
  | (_,none)::r=>aB5 ρ O r
  | (l,some _)::r=>(loq O (rn ρ l)).map (fun o=>(o.cells,o.box))::aB5 ρ O r
def aB4 (ρ:List (Nat × Nat)):List (Nat × Option Ob)→List (Option (List PV × Bool))
  | []=>[]
  | (_,none)::r=>aB4 ρ r
  | (_,some ob)::r=>some (match ob.box with | true=>aGL ρ ob.cells | false=>ob.cells,ob.box)::aB4 ρ r
def aCY (ρ:List (Nat × Nat)) (O:List (Nat × Option Ob)):List (Nat × Option Ob)→Bool
  | []=>true
  | (_,none)::r=>aCY ρ O r
  | (l,some ob)::r=>(match ob.deep with | true=>(match loq O (rn ρ l) with | some o=>o.deep | none=>false) | false=>true)&&aCY ρ O r
theorem EntO.fast {ρ:List (Nat × Nat)}:∀ {O':List (Nat × Option Ob)},aB5 ρ O O'=aB4 ρ O'→aCY ρ O O'=true→EntO ρ O O'
  | [],_,_=>trivial
  | (_,none)::r,h1,h2=>by
    simp only [aB5,aB4] at h1
    simp only [aCY] at h2
    simp only [EntO]
    exact EntO.fast h1 h2
  | (l,some ob)::r,h1,h2=>by
    simp only [aB5,aB4,List.cons.injEq] at h1
    simp only [aCY,Bool.and_eq_true] at h2
    simp only [EntO]
    refine ⟨?_,EntO.fast h1.2 h2.2⟩
    cases hs:loq O (rn ρ l) with
    | none=>rw [hs] at h1;simp at h1
    | some o =>
      rw [hs] at h1 h2
      have h3:=h1.1
      simp only [Option.map_some,Option.some.injEq,Prod.mk.injEq] at h3
      refine ⟨o.deep,?_,fun hd=>?_⟩
      · obtain ⟨c1,c2⟩:=h3
        cases o;simp only [] at c1 c2 ⊢
        rw [c1,c2];cases ob.box <;> rfl
      · have:=h2.1;rw [hd] at this;simpa using this
theorem el (ρ:List (Nat × Nat)) (hio:∀ l,Γ.io (rn ρ l)=Γ.io l∧(Γ.io l≠none→rn ρ l=l)) (hi:aGT ρ (wK O')=true) (h1:aEI S S'=aEH ρ S') (h2:aFp S S'=true) (h3:aB5 ρ O O'=aB4 ρ O') (h4:aCY ρ O O'=true):Ent Γ ⟨S,O⟩ ⟨S',O'⟩ :=
  Ent.list ρ hio hi (EntS.fast h1 h2) (EntO.fast h3 h4)
variable {d:Nat} {ty:TypeId} {pos:String} {af:Array Edge} {g:Option (Nat × Bool)}
variable {x y:Operand} {u u':TypeId} {k:IntKind} {m n r:Int}
variable {ops rest:List Oper} {K:List Item→Env→Prop} {acc:List Item} {gs:List Nat}
def aFL (c:PV):Bool:=match c.labs with | []=>true | _=>false
theorem aE0 {bx:Bool} {c:PV} (h:(bx||aFL c)=true):bx=true∨c.labs=[]:=by
  cases bx with
  | true=>exact .inl rfl
  | false =>
    right
    simp only [Bool.false_or,aFL] at h
    split at h
    · assumption
    · cases h
end
end Go.Ev
/- The engine, part PP: a drawn region in which one pair of operations is not ordered (printed by mkpp.py). -/
namespace Go.Ev
def XOk {P:Program} {N:Nat} (Γ:Ctx P N) (ops:Array Oper) (items:List Item) (E0:Env) (p q:Nat):Prop :=
  ∃ x y,items[q]?=some x∧items[p]?=some y∧p < q∧uB x y=false∧x.nl=[]∧y.nl=[]∧lY Γ ops q (pt (fun j=>Nat.blt j q&&!(Nat.beq j p)) items 0 E0) x.e x.rs x.ro x.nl
theorem XOk.intro {P:Program} {N:Nat} {Γ:Ctx P N} {ops:Array Oper} {items:List Item} {E0:Env} {p q:Nat} {x y:Item} {o:Oper} (h1:items[q]?=some x) (h2:items[p]?=some y) (h3:Nat.blt p q=true) (h4:uB x y=false) (h5:x.nl=[]) (h6:y.nl=[])
    (ho:ops[q]?=some o) (hg:o.guard=none) (hl:Local Γ o ⟨(pt (fun j=>Nat.blt j q&&!(Nat.beq j p)) items 0 E0).s,(pt (fun j=>Nat.blt j q&&!(Nat.beq j p)) items 0 E0).o⟩ x.e x.rs x.ro x.nl):XOk Γ ops items E0 p q :=
  ⟨x,y,h1,h2,(aZ _ _).1 h3,h4,h5,h6,Local.at ho hg hl⟩
section
variable {P:Program} {N:Nat} {Γ:Ctx P N} {E:Env} {Q:Exit→Env→Prop}
end
end Go.Ev
/- The engine, part QQ: functions that return a new row whose elements are shared: the row becomes the caller's own row. -/
namespace Go.Ev
open Go.RowKit (Below)
def MeetsF (P:Program) (f:FuncId) (args:List PV) (s n:Nat) (cells:List PV):Prop :=
  ∀ (w:World) (cargs:Array Value) (ok:Nat→Prop),RelArgs w.heap ok args cargs.toList →
    Calls P f cargs w fun e w'=>∃ c B,e=.returned c∧Below w.heap.size w w'∧RelV w'.heap dead (.rw s n cells) c B∧(∀ b ∈ B,b < w'.heap.size∧(ok b∨w.heap.size≤b))∧(∀ b B',B=b::B'→w.heap.size≤b∧b ∉ B')
theorem MeetsF.soft {P:Program} {f:FuncId} {args:List PV} {s n:Nat} {cells:List PV} (h:MeetsF P f args s n cells):Meets P f args (.sl n cells) false :=
  fun w cargs ok ha=>(h w cargs ok ha).mono fun _ _ ⟨c,B,h1,h2,h3,h4,_⟩=>⟨c,B,h1,h2,h3.soft,fun b hb=>(h4 b hb).2,by simp⟩
section
variable {P:Program} {N:Nat} {Γ:Ctx P N} {S:List (Nat × Slot)} {O:List (Nat × Option Ob)} {ow:Nat→Own} {β:Nat→Option (Option Nat)} {F:Env} {a:Act} {w:World}
def ResF (Γ:Ctx P N) (rs:Array ResultVar) (E:Env) (s n:Nat) (cells:List PV):Prop :=
  ∀ fn:Func,fn.results=rs→∀ a w,Sim Γ E a w→∃ c B,(results fn a.tmps).run P w=.ok c w∧RelV w.heap dead (.rw s n cells) c B∧(∀ b ∈ B,b < w.heap.size∧(Γ.ok b∨Γ.nw b))∧(∀ b B',B=b::B'→Γ.nww b∧b ∉ B')
def aJF (Γ:Ctx P N) (rs:Array ResultVar) (s n:Nat) (cells:List PV):Exit→Env→Prop
  | .normal,E=>ResF Γ rs E s n cells
  | .ret,E=>ResF Γ rs E s n cells
  | _,_=>False
theorem ResF.weak {E E0:Env} {rs:Array ResultVar} {s n:Nat} {cells:List PV} (he:Ent Γ E E0) (h:ResF Γ rs E0 s n cells):ResF Γ rs E s n cells:=fun fn hf a w hs=>h fn hf a w (he a w hs)
theorem ResF.mk {t l s n:Nat} {cells:List PV} {dp dp0:Bool} (h:lkq S t=some ⟨.ref l s 0 n,dp0⟩) (ho:loq O l=some ⟨cells,dp,false⟩) (hio:Γ.io l=none):ResF Γ #[.tmp t] ⟨S,O⟩ s n cells:=by
  rintro fn hf a w ⟨ow,β,hs⟩
  rw [uG hf]
  obtain ⟨B,h1,_⟩:=hs.slots t
  rw [dX h] at h1
  simp only [RelV] at h1
  obtain ⟨Bo,o1,o2,hob⟩:=hs.objs l ⟨cells,dp,false⟩ (by rw [← cX];exact ho)
  rcases hob with ⟨p1,p2,p3⟩ | ⟨b,cs,u,p1,p2,p3,p4⟩
  · obtain ⟨rfl,_,e⟩:=h1.2.1 p1
    simp only at p2;subst p2
    exact ⟨_,[],rfl,by simp only [RelV];exact .inl ⟨trivial,trivial,trivial,e⟩,by simp,by simp⟩
  · obtain ⟨cap,cs',u',q1,q0,q3,q4⟩:=h1.2.2 b p1
    rw [p3] at q0;cases q0
    simp only [Nat.zero_mul,Nat.zero_add] at q1 q3
    refine ⟨_,b::Bo,rfl,by simp only [RelV];exact .inr ⟨b,cap,cs,u,Bo,⟨q1,q4,q3⟩,p3,by simpa using p4,rfl⟩,fun c hc=>?_,fun b' B' e=>?_⟩
    · rcases List.mem_cons.1 hc with rfl | hc
      · exact ⟨hs.block_lt p1,.inr (.inl (hs.fresh l _ p1 hio))⟩
      · exact ⟨(o1 c hc).1,(o1 c hc).2.1⟩
    · cases e
      exact ⟨hs.fresh l _ p1 hio,fun hb=>(o1 b hb).2.2 l p2⟩
theorem MeetsF.intro {f:FuncId} {fn:Func} {c:Code} {args:List PV} {s n:Nat} {cells:List PV} {rs:Array ResultVar} (hf:P.funcs[f]?=some fn) (hb:fn.body=some c) (hN:fn.ntmps=N) (hrs:fn.results=rs) (hn:Nat.ble args.length N=true)
    (h:∀ Γ:Ctx P N,(∀ l,Nat.blt l 100000=true→Γ.io l=none)→CodeT Γ c ⟨hP args 0,[]⟩ (aJF Γ rs s n cells)):MeetsF P f args s n cells:=by
  intro w cargs ok ha
  obtain ⟨h1,h2⟩:=ha.get
  have hn:=Nat.le_of_ble_eq_true hn
  let Γ:Ctx P N:={ base:=w.heap.size,ok:=fun b=>ok b,io:=fun _=>none,w0:=w,mine:=fun _=>False,lent:=fun _=>False }
  have hsz:(cargs++Array.replicate (fn.ntmps - cargs.size) undef).size=N:=by
    have:cargs.size=args.length:=by rw [h1];simp
    simp [this,hN];omega
  refine calls_of_wp hf hb ?_
  have hsim:Sim Γ ⟨hP args 0,[]⟩ { tmps:=cargs++Array.replicate (fn.ntmps - cargs.size) undef,defers:=[] } w:=by
    refine ⟨fun _=>.none,fun _=>none,{ size:=hsz,defers:=rfl,kept:=⟨rfl,rfl,rfl,Nat.le_refl _,fun _ _ _ _=>rfl,fun b _ _ cs t h=>⟨cs,h,rfl⟩⟩,slots:=fun k=>?_,objs:=fun l ob hl=>(by simp [lo] at hl),gone:=fun _ _=>rfl,own:=fun b hb=>absurd rfl hb,ios:=fun l b hl=>(by cases hl),fresh:=fun l b hl=>(by cases hl) }⟩
    rw [mT]
    by_cases hk:k < args.length
    · rw [if_pos ⟨Nat.zero_le _,by simpa using hk⟩]
      obtain ⟨B,g1,g2⟩:=h2 k hk
      refine ⟨B,?_,fun b hb=>⟨RelV.below _ _ _ g1 b hb,.inl (g2 b hb),fun l=>by simp⟩,by simp⟩
      have e:(cargs++Array.replicate (fn.ntmps - cargs.size) undef).getD k undef=cargs.toList.getD k undef:=by
        have hlt:k < cargs.size:=by rw [h1] at hk;simpa using hk
        simp [Array.getD_eq_getD_getElem?,Array.getElem?_append,hlt,List.getD_eq_getElem?_getD]
      rw [e]
      simp only [Nat.sub_zero]
      exact RelV.keep _ _ _ (fun l _=>by intro ob h;cases h) (fun _ _=>rfl) g1
    · rw [if_neg (by simpa using hk)]
      exact ⟨[],by simp [RelV],by simp,by simp⟩
  refine wp_mono (h Γ (fun _ _=>rfl) _ _ hsim) fun e a' w' ⟨E',hs',hq⟩=>?_
  have fin:ResF Γ rs E' s n cells→a'.defers=[]∧∃ v,(results fn a'.tmps).run P w'=.ok v w'∧∃ c B,Ending.returned v=.returned c∧Below w.heap.size w w'∧RelV w'.heap dead (.rw s n cells) c B∧(∀ b ∈ B,b < w'.heap.size∧(ok b∨w.heap.size≤b))∧(∀ b B',B=b::B'→w.heap.size≤b∧b ∉ B'):=by
    intro hr
    obtain ⟨c,B,g1,g2,g3,g4⟩:=hr fn hrs a' w' hs'
    obtain ⟨ow,β,hs'⟩:=hs'
    exact ⟨hs'.defers,c,g1,c,B,rfl,⟨hs'.kept.os,hs'.kept.tape,hs'.kept.output,hs'.kept.size,fun k hk=>hs'.kept.old k hk (fun l=>by simp [Γ]) (fun h=>h)⟩,g2,fun b hb=>⟨(g3 b hb).1,(g3 b hb).2.imp id (fun h=>(h.elim id False.elim:Γ.nww b).elim id False.elim)⟩,fun b B' e=>⟨(g4 b B' e).1.elim id False.elim,(g4 b B' e).2⟩⟩
  cases e with
  | normal=>exact fin hq
  | ret=>exact fin hq
  | exit id=>exact hq.elim
  | goto l=>exact hq.elim
  | panic ch=>exact hq.elim
  | outgrown=>exact hq.elim
variable {d:Nat} {ty:TypeId} {pos:String} {af:Array Edge} {g:Option (Nat × Bool)}
end
end Go.Ev
/- The engine, part RR: a rule and the step that uses it in one; what is plain is found by itself (printed by mkrr.py). -/
namespace Go.Ev
section
variable {P:Program} {N:Nat} {Γ:Ctx P N} {S S':List (Nat × Slot)} {O O':List (Nat × Option Ob)}
variable {d:Nat} {ty:TypeId} {pos:String} {af:Array Edge} {g:Option (Nat × Bool)}
variable {x y:Operand} {u u':TypeId} {k:IntKind} {m n r:Int}
variable {ops rest:List Oper} {K:List Item→Env→Prop} {acc:List Item} {gs:List Nat}
theorem aA {x:Operand} {v:PV} (hrun:Run Γ ops K rest (⟨⟨[(d,⟨v,false⟩)],[]⟩,gs++(ors x),[],[]⟩::acc) ⟨[(d,⟨v,false⟩)]++S,[]++O⟩) (hv:evq S x=some v:=by rfl) (hd:Nat.blt d N=true:=by rfl) (hgd:gd N ops S true g=some gs:=by rfl):Run Γ ops K (⟨some d,.move x,ty,pos,af,g⟩::rest) acc ⟨S,O⟩:=.op (jJ hv hd) hgd rfl hrun
theorem aC {x:Operand} {v:PV} (hrun:Run Γ ops K rest (⟨⟨[(d,⟨v,false⟩)],[]⟩,gs++(ors x),[],[]⟩::acc) ⟨[(d,⟨v,false⟩)]++S,[]++O⟩) (hv:evq S x=some v:=by rfl) (hd:Nat.blt d N=true:=by rfl) (hgd:gd N ops S true g=some gs:=by rfl):Run Γ ops K (⟨some d,.assign x,ty,pos,af,g⟩::rest) acc ⟨S,O⟩:=.op (vI hv hd) hgd rfl hrun
theorem aD {x:Operand} {t f off l k:Nat} {ob:Ob} [hf:FldT P t f off] (hrun:Run Γ ops K rest (⟨⟨[(d,⟨.ptr l (k+off),false⟩)],[]⟩,gs++(ors x),[l],[]⟩::acc) ⟨[(d,⟨.ptr l (k+off),false⟩)]++S,[]++O⟩) (hx:evq S x=some (.ptr l k):=by rfl) (ho:loq O l=some ob:=by rfl) (hne:Nat.blt 0 ob.cells.length=true:=by rfl) (hd:Nat.blt d N=true:=by rfl) (hgd:gd N ops S true g=some gs:=by rfl):Run Γ ops K (⟨some d,.fieldAddr t x f,ty,pos,af,g⟩::rest) acc ⟨S,O⟩:=.op (aH7 hx ho hne hd) hgd rfl hrun
theorem eH {s:Nat} {v:PV} {dp:Bool} (hrun:Run Γ ops K rest (⟨⟨[(d,⟨v,dp⟩),(s,⟨.any,false⟩)],[]⟩,gs++[s],[],[]⟩::acc) ⟨[(d,⟨v,dp⟩),(s,⟨.any,false⟩)]++S,[]++O⟩) (hv:lkq S s=some ⟨v,dp⟩:=by rfl) (hd:Nat.blt d N=true:=by rfl) (hne:Nat.beq d s=false:=by rfl) (hgd:gd N ops S true g=some gs:=by rfl):Run Γ ops K (⟨some d,.move (.tmp s),ty,pos,af,g⟩::rest) acc ⟨S,O⟩:=.op (aJl hv hd hne) hgd rfl hrun
theorem gQ {s:Nat} {v:PV} {dp:Bool} (hrun:Run Γ ops K rest (⟨⟨[(d,⟨v,dp⟩),(s,⟨.any,false⟩)],[]⟩,gs++[s],[],[]⟩::acc) ⟨[(d,⟨v,dp⟩),(s,⟨.any,false⟩)]++S,[]++O⟩) (hv:lkq S s=some ⟨v,dp⟩:=by rfl) (hd:Nat.blt d N=true:=by rfl) (hne:Nat.beq d s=false:=by rfl) (hgd:gd N ops S true g=some gs:=by rfl):Run Γ ops K (⟨some d,.assign (.tmp s),ty,pos,af,g⟩::rest) acc ⟨S,O⟩:=.op (aEC hv hd hne) hgd rfl hrun
theorem aQ {x:Operand} {t e:Nat} [ht:SlT P t e] {n:Nat} {cells:List PV} (hrun:Run Γ ops K rest (⟨⟨[(d,⟨.sc (.int .i64 n),false⟩)],[]⟩,gs++(ors x),[],[]⟩::acc) ⟨[(d,⟨.sc (.int .i64 n),false⟩)]++S,[]++O⟩) (hx:evq S x=some (.sl n cells):=by rfl) (hd:Nat.blt d N=true:=by rfl) (hgd:gd N ops S true g=some gs:=by rfl):Run Γ ops K (⟨some d,.call ⟨.builtin .len,#[x],#[t]⟩,ty,pos,af,g⟩::rest) acc ⟨S,O⟩:=.op (aI1 hx hd) hgd rfl hrun
theorem aL {c x y:Operand} {v:PV} (hrun:Run Γ ops K rest (⟨⟨[(d,⟨v,false⟩)],[]⟩,gs++(ors c++ors x),[],[]⟩::acc) ⟨[(d,⟨v,false⟩)]++S,[]++O⟩) (hc:evq S c=some (.sc (.bool true)):=by rfl) (hv:evq S x=some v:=by rfl) (hd:Nat.blt d N=true:=by rfl) (hgd:gd N ops S true g=some gs:=by rfl):Run Γ ops K (⟨some d,.pick c x y,ty,pos,af,g⟩::rest) acc ⟨S,O⟩:=.op (aIM hc hv hd) hgd rfl hrun
theorem aO {c x y:Operand} {v:PV} (hrun:Run Γ ops K rest (⟨⟨[(d,⟨v,false⟩)],[]⟩,gs++(ors c++ors y),[],[]⟩::acc) ⟨[(d,⟨v,false⟩)]++S,[]++O⟩) (hc:evq S c=some (.sc (.bool false)):=by rfl) (hv:evq S y=some v:=by rfl) (hd:Nat.blt d N=true:=by rfl) (hgd:gd N ops S true g=some gs:=by rfl):Run Γ ops K (⟨some d,.pick c x y,ty,pos,af,g⟩::rest) acc ⟨S,O⟩:=.op (aIN hc hv hd) hgd rfl hrun
theorem bC  (hrun:Run Γ ops K rest (⟨⟨[(d,⟨.sc (.int k r),false⟩)],[]⟩,gs++(ors x++ors y),[],[]⟩::acc) ⟨[(d,⟨.sc (.int k r),false⟩)]++S,[]++O⟩) (hx:evq S x=some (.sc (.int k m)):=by rfl) (hy:evq S y=some (.sc (.int k n)):=by rfl) (hr:k.wrap (m+n)=r:=by rfl) (hd:Nat.blt d N=true:=by rfl) (hgd:gd N ops S true g=some gs:=by rfl):Run Γ ops K (⟨some d,.binOp .add u x y u',ty,pos,af,g⟩::rest) acc ⟨S,O⟩:=.op (aI2 hx hy hr hd) hgd rfl hrun
theorem eX  (hrun:Run Γ ops K rest (⟨⟨[(d,⟨.sc (.int k r),false⟩)],[]⟩,gs++(ors x++ors y),[],[]⟩::acc) ⟨[(d,⟨.sc (.int k r),false⟩)]++S,[]++O⟩) (hx:evq S x=some (.sc (.int k m)):=by rfl) (hy:evq S y=some (.sc (.int k n)):=by rfl) (hr:k.wrap (m - n)=r:=by rfl) (hd:Nat.blt d N=true:=by rfl) (hgd:gd N ops S true g=some gs:=by rfl):Run Γ ops K (⟨some d,.binOp .sub u x y u',ty,pos,af,g⟩::rest) acc ⟨S,O⟩:=.op (aH4 hx hy hr hd) hgd rfl hrun
theorem bE {x:Operand} {u:TypeId} {b:Bool} (hrun:Run Γ ops K rest (⟨⟨[(d,⟨.sc (.bool (!b)),false⟩)],[]⟩,gs++(ors x),[],[]⟩::acc) ⟨[(d,⟨.sc (.bool (!b)),false⟩)]++S,[]++O⟩) (hx:evq S x=some (.sc (.bool b)):=by rfl) (hd:Nat.blt d N=true:=by rfl) (hgd:gd N ops S true g=some gs:=by rfl):Run Γ ops K (⟨some d,.unOp .not u x,ty,pos,af,g⟩::rest) acc ⟨S,O⟩:=.op (aJN hx hd) hgd rfl hrun
theorem bF  (hrun:Run Γ ops K rest (⟨⟨[(d,⟨.sc (.bool (decide (m < n))),false⟩)],[]⟩,gs++(ors x++ors y),[],[]⟩::acc) ⟨[(d,⟨.sc (.bool (decide (m < n))),false⟩)]++S,[]++O⟩) (hx:evq S x=some (.sc (.int k m)):=by rfl) (hy:evq S y=some (.sc (.int k n)):=by rfl) (hd:Nat.blt d N=true:=by rfl) (hgd:gd N ops S true g=some gs:=by rfl):Run Γ ops K (⟨some d,.binOp .lss u x y u',ty,pos,af,g⟩::rest) acc ⟨S,O⟩:=.op (wN hx hy hd) hgd rfl hrun
theorem aGz  (hrun:Run Γ ops K rest (⟨⟨[(d,⟨.sc (.bool (decide (m≤n))),false⟩)],[]⟩,gs++(ors x++ors y),[],[]⟩::acc) ⟨[(d,⟨.sc (.bool (decide (m≤n))),false⟩)]++S,[]++O⟩) (hx:evq S x=some (.sc (.int k m)):=by rfl) (hy:evq S y=some (.sc (.int k n)):=by rfl) (hd:Nat.blt d N=true:=by rfl) (hgd:gd N ops S true g=some gs:=by rfl):Run Γ ops K (⟨some d,.binOp .leq u x y u',ty,pos,af,g⟩::rest) acc ⟨S,O⟩:=.op (aBt hx hy hd) hgd rfl hrun
theorem oA  (hrun:Run Γ ops K rest (⟨⟨[(d,⟨.sc (.bool (decide (n < m))),false⟩)],[]⟩,gs++(ors x++ors y),[],[]⟩::acc) ⟨[(d,⟨.sc (.bool (decide (n < m))),false⟩)]++S,[]++O⟩) (hx:evq S x=some (.sc (.int k m)):=by rfl) (hy:evq S y=some (.sc (.int k n)):=by rfl) (hd:Nat.blt d N=true:=by rfl) (hgd:gd N ops S true g=some gs:=by rfl):Run Γ ops K (⟨some d,.binOp .gtr u x y u',ty,pos,af,g⟩::rest) acc ⟨S,O⟩:=.op (wO hx hy hd) hgd rfl hrun
theorem fV  (hrun:Run Γ ops K rest (⟨⟨[(d,⟨.sc (.bool (decide (m=n))),false⟩)],[]⟩,gs++(ors x++ors y),[],[]⟩::acc) ⟨[(d,⟨.sc (.bool (decide (m=n))),false⟩)]++S,[]++O⟩) (hx:evq S x=some (.sc (.int k m)):=by rfl) (hy:evq S y=some (.sc (.int k n)):=by rfl) (hd:Nat.blt d N=true:=by rfl) (hgd:gd N ops S true g=some gs:=by rfl):Run Γ ops K (⟨some d,.binOp .eql u x y u',ty,pos,af,g⟩::rest) acc ⟨S,O⟩:=.op (wP hx hy hd) hgd rfl hrun
theorem nD  (hrun:Run Γ ops K rest (⟨⟨[(d,⟨.sc (.bool (decide (m≠n))),false⟩)],[]⟩,gs++(ors x++ors y),[],[]⟩::acc) ⟨[(d,⟨.sc (.bool (decide (m≠n))),false⟩)]++S,[]++O⟩) (hx:evq S x=some (.sc (.int k m)):=by rfl) (hy:evq S y=some (.sc (.int k n)):=by rfl) (hd:Nat.blt d N=true:=by rfl) (hgd:gd N ops S true g=some gs:=by rfl):Run Γ ops K (⟨some d,.binOp .neq u x y u',ty,pos,af,g⟩::rest) acc ⟨S,O⟩:=.op (aJO hx hy hd) hgd rfl hrun
theorem rV {x:Operand} {t f off:Nat} {cells:List PV} [hf:FldT P t f off] (hrun:Run Γ ops K rest (⟨⟨[(d,⟨.iptr (cells.drop off),false⟩)],[]⟩,gs++(ors x),[],[]⟩::acc) ⟨[(d,⟨.iptr (cells.drop off),false⟩)]++S,[]++O⟩) (hx:evq S x=some (.iptr cells):=by rfl) (hd:Nat.blt d N=true:=by rfl) (hgd:gd N ops S true g=some gs:=by rfl):Run Γ ops K (⟨some d,.fieldAddr t x f,ty,pos,af,g⟩::rest) acc ⟨S,O⟩:=.op (aJp hx hd) hgd rfl hrun
theorem cT {x:Operand} {t n by_:Nat} {cells:List PV} {c:PV} [ht:TI P t n false by_] (hrun:Run Γ ops K rest (⟨⟨[(d,⟨c,false⟩)],[]⟩,gs++(ors x),[],[]⟩::acc) ⟨[(d,⟨c,false⟩)]++S,[]++O⟩) (hx:evq S x=some (.iptr cells):=by rfl) (hc:cells[0]?=some c:=by rfl) (hl:c.labs=[]:=by rfl) (hd:Nat.blt d N=true:=by rfl) (hgd:gd N ops S true g=some gs:=by rfl):Run Γ ops K (⟨some d,.load t x,ty,pos,af,g⟩::rest) acc ⟨S,O⟩:=.op (aJS hx hc hl hd) hgd rfl hrun
theorem aI {x:Operand} {t n by_ l k:Nat} {cells:List PV} {dp bx:Bool} {c:PV} [ht:TI P t n false by_] (hrun:Run Γ ops K rest (⟨⟨[(d,⟨c,false⟩)],[]⟩,gs++(ors x),[l],[]⟩::acc) ⟨[(d,⟨c,false⟩)]++S,[]++O⟩) (hx:evq S x=some (.ptr l k):=by rfl) (ho:loq O l=some ⟨cells,dp,bx⟩:=by rfl) (hc:cells[k]?=some c:=by rfl) (hl:(bx||aFL c)=true:=by rfl) (hd:Nat.blt d N=true:=by rfl) (hgd:gd N ops S true g=some gs:=by rfl):Run Γ ops K (⟨some d,.load t x,ty,pos,af,g⟩::rest) acc ⟨S,O⟩:=.op (iE hx ho hc (aE0 hl) hd) hgd rfl hrun
theorem aM {x:Operand} {t n by_ l k:Nat} {cells vs:List PV} {dp bx:Bool} [ht:TI P t n true by_] (hrun:Run Γ ops K rest (⟨⟨[(d,⟨.agg vs,false⟩)],[]⟩,gs++(ors x),[l],[]⟩::acc) ⟨[(d,⟨.agg vs,false⟩)]++S,[]++O⟩) (hx:evq S x=some (.ptr l k):=by rfl) (ho:loq O l=some ⟨cells,dp,bx⟩:=by rfl) (hc:(cells.drop k).take n=vs:=by first | exact iT rfl | rfl) (hn:Nat.beq vs.length n=true:=by rfl) (hn0:n≠0:=by intro h;cases h) (hl:(bx||eN vs)=true:=by rfl) (hd:Nat.blt d N=true:=by rfl) (hgd:gd N ops S true g=some gs:=by rfl):Run Γ ops K (⟨some d,.load t x,ty,pos,af,g⟩::rest) acc ⟨S,O⟩:=.op (hY hx ho hc hn hn0 (by cases bx with | true=>exact .inl rfl | false=>exact .inr (by simpa using hl)) hd) hgd rfl hrun
theorem aH {f:FuncId} [hfc:FnC P f] {xs:List Operand} {us:Array TypeId} {ps:List PV} {ls:List Nat} {r:PV} {deep:Bool} (hrun:Run Γ ops K rest (⟨⟨[(d,⟨r,deep⟩)],[]⟩,gs++(wR xs),ls,[]⟩::acc) ⟨[(d,⟨r,deep⟩)]++S,[]++O⟩) (ha:ArgsV S O xs ps ls) (hm:Meets P f ps r deep) (hc:(aI8 ls||deep||flat r)=true:=by rfl) (hr:r.labs=[]:=by rfl) (hd:Nat.blt d N=true:=by rfl) (hgd:gd N ops S true g=some gs:=by rfl):Run Γ ops K (⟨some d,.call ⟨.value (.func f),xs.toArray,us⟩,ty,pos,af,g⟩::rest) acc ⟨S,O⟩:=.op (eJ ha hm hc hr hd) hgd rfl hrun
theorem dQ {x y:Operand} {t n by_ l k:Nat} {agg dp bx:Bool} {cells cells':List PV} {p:PV} [ht:TI P t n agg by_] (hrun:Run Γ ops K rest (⟨⟨[],[(l,some ⟨cells',dp&&aAP p,bx⟩)]⟩,gs++(ors x++ors y),(l::rQ p),[]⟩::acc) ⟨[]++S,[(l,some ⟨cells',dp&&aAP p,bx⟩)]++O⟩) (hx:evq S x=some (.ptr l k):=by rfl) (ho:loq O l=some ⟨cells,dp,bx⟩:=by rfl) (hy:evq S y=some p:=by rfl) (hst:stB O bx p=true:=by rfl) (hlen:Nat.beq (bO p).length n=true:=by rfl) (hn0:n≠0:=by intro h;cases h) (hk:Nat.ble (k+n) cells.length=true:=by rfl) (hc:cells.take k++bO p++cells.drop (k+n)=cells':=by first | exact aAp rfl | rfl) (hgd:gd N ops S true g=some gs:=by rfl):Run Γ ops K (⟨none,.store t x y,ty,pos,af,g⟩::rest) acc ⟨S,O⟩:=.op (aJJ hx ho hy hst hlen hn0 hk hc) hgd rfl hrun
theorem aR (bx:Bool) {e:Nat} {ps:List PV} [hz:ZT P e ps] (hrun:Run Γ ops K rest (⟨⟨[(d,⟨.ptr d 0,false⟩)],[(d,some ⟨ps,true,bx⟩)]⟩,gs++[],[],[d]⟩::acc) ⟨[(d,⟨.ptr d 0,false⟩)]++S,[(d,some ⟨ps,true,bx⟩)]++O⟩) (hio:Γ.io d=none:=by exact io1 (by assumption) _) (hd:Nat.blt d N=true:=by rfl) (hgd:gd N ops S true g=some gs:=by rfl) (hno:iZ ⟨S,O⟩ [d]=true:=by rfl):Run Γ ops K (⟨some d,.alloc e,ty,pos,af,g⟩::rest) acc ⟨S,O⟩:=.op (aGC bx hio hd) hgd hno hrun
theorem aV {α:Type} {x i:Operand} {t e n by_:Nat} {agg:Bool} {l:List α} {enc:α→List PV} {y:α} {k:IntKind} {j:Int} {len:Nat} [ht:SlT P t e] [hi:TI P e n agg by_] (hrun:Run Γ ops K rest (⟨⟨[(d,⟨.iptr (enc y),false⟩)],[]⟩,gs++(ors x++ors i),[],[]⟩::acc) ⟨[(d,⟨.iptr (enc y),false⟩)]++S,[]++O⟩) (hl:idx l j=some y) (hx:evq S x=some (.sl len (l.flatMap enc)):=by rfl) (hix:evq S i=some (.sc (.int k j)):=by rfl) (hlen:len=l.length:=by rfl) (hsz:∀ y,(enc y).length=n:=by intro _;rfl) (hd:Nat.blt d N=true:=by rfl) (hgd:gd N ops S true g=some gs:=by rfl):Run Γ ops K (⟨some d,.indexAddr t x i,ty,pos,af,g⟩::rest) acc ⟨S,O⟩:=.op (aJo hx hix hlen hl hsz hd) hgd rfl hrun
theorem bP {x:Operand} {t n by_ l k s:Nat} {agg dp bx:Bool} {cells cells':List PV} {p:PV} [ht:TI P t n agg by_] (hrun:Run Γ ops K rest (⟨⟨[(s,⟨.any,false⟩)],[(l,some ⟨cells',dp,bx⟩)]⟩,gs++(ors x++[s]),[l],[]⟩::acc) ⟨[(s,⟨.any,false⟩)]++S,[(l,some ⟨cells',dp,bx⟩)]++O⟩) (hx:evq S x=some (.ptr l k):=by rfl) (ho:loq O l=some ⟨cells,dp,bx⟩:=by rfl) (hy:lkq S s=some ⟨p,true⟩:=by rfl) (hst:stB O bx p=true:=by rfl) (hl:p.labs=[]:=by rfl) (hlen:Nat.beq (bO p).length n=true:=by rfl) (hn0:n≠0:=by intro h;cases h) (hk:Nat.ble (k+n) cells.length=true:=by rfl) (hc:cells.take k++bO p++cells.drop (k+n)=cells':=by first | exact aAp rfl | rfl) (hgd:gd N ops S true g=some gs:=by rfl):Run Γ ops K (⟨none,.store t x (.tmp s),ty,pos,af,g⟩::rest) acc ⟨S,O⟩:=.op (aFz hx ho hy hst hl hlen hn0 hk hc) hgd rfl hrun
theorem bL (bx:Bool) {e:Nat} {x:Operand} {p:PV} (hrun:Run Γ ops K rest (⟨⟨[(d,⟨.ptr d 0,false⟩)],[(d,some ⟨bO p,aAP p,bx⟩)]⟩,gs++(ors x),(rQ p),[d]⟩::acc) ⟨[(d,⟨.ptr d 0,false⟩)]++S,[(d,some ⟨bO p,aAP p,bx⟩)]++O⟩) (hx:evq S x=some p:=by rfl) (hst:stB O bx p=true:=by rfl) (hlab:uZ p.labs d=false:=by rfl) (hio:Γ.io d=none:=by exact io1 (by assumption) _) (hd:Nat.blt d N=true:=by rfl) (hgd:gd N ops S true g=some gs:=by rfl) (hno:iZ ⟨S,O⟩ [d]=true:=by rfl):Run Γ ops K (⟨some d,.box e x,ty,pos,af,g⟩::rest) acc ⟨S,O⟩:=.op (aJY bx hx hst hlab hio hd) hgd hno hrun
theorem cR (dp:Bool) {t:Nat} {parts:Array (Nat × Operand)} {zs cells:List PV} {pl:List (Nat × Nat)} {ks:List Nat} [hz:ZT P t zs] [hp:PlT P t pl] (hrun:Run Γ ops K rest (⟨⟨(d,⟨.agg cells,dp⟩)::ks.map (fun j=>(j,⟨.any,false⟩)),[]⟩,gs++(zW parts.toList),[],[]⟩::acc) ⟨(d,⟨.agg cells,dp⟩)::ks.map (fun j=>(j,⟨.any,false⟩))++S,[]++O⟩) (hb:BuildV S pl dp parts.toList zs cells ks) (hnl:eN cells=true:=by rfl) (hd:Nat.blt d N=true:=by rfl) (hgd:gd N ops S true g=some gs:=by rfl):Run Γ ops K (⟨some d,.build t parts,ty,pos,af,g⟩::rest) acc ⟨S,O⟩:=.op (aIa dp hb hnl hd) hgd rfl hrun
theorem yG {x:Operand} {vs:List PV} {i:Nat} {p:PV} (hrun:Run Γ ops K rest (⟨⟨[(d,⟨p,false⟩)],[]⟩,gs++(ors x),[],[]⟩::acc) ⟨[(d,⟨p,false⟩)]++S,[]++O⟩) (hx:evq S x=some (.tup vs):=by rfl) (hp:vs[i]?=some p:=by rfl) (hd:Nat.blt d N=true:=by rfl) (hgd:gd N ops S true g=some gs:=by rfl):Run Γ ops K (⟨some d,.extract x i,ty,pos,af,g⟩::rest) acc ⟨S,O⟩:=.op (aJr hx hp hd) hgd rfl hrun
theorem bW {α:Type} {x i:Operand} {t e sz n by_ r:Nat} {agg:Bool} {l:List α} {y:α} {k:IntKind} {j:Int} {ob:Ob} [ht:SlT P t e] [hi:TI P e sz agg by_] (hrun:Run Γ ops K rest (⟨⟨[(d,⟨.ptr r (j.toNat*sz),false⟩)],[]⟩,gs++(ors x++ors i),[r],[]⟩::acc) ⟨[(d,⟨.ptr r (j.toNat*sz),false⟩)]++S,[]++O⟩) (hl:idx l j=some y) (hx:evq S x=some (.ref r sz 0 n):=by rfl) (ho:loq O r=some ob:=by rfl) (hix:evq S i=some (.sc (.int k j)):=by rfl) (hn:n=l.length:=by rfl) (hd:Nat.blt d N=true:=by rfl) (hgd:gd N ops S true g=some gs:=by rfl):Run Γ ops K (⟨some d,.indexAddr t x i,ty,pos,af,g⟩::rest) acc ⟨S,O⟩:=.op (aEA hx ho hix hl hn hd) hgd rfl hrun
theorem dH {x:Operand} {t n by_:Nat} {cells vs:List PV} [ht:TI P t n true by_] (hrun:Run Γ ops K rest (⟨⟨[(d,⟨.agg vs,false⟩)],[]⟩,gs++(ors x),[],[]⟩::acc) ⟨[(d,⟨.agg vs,false⟩)]++S,[]++O⟩) (hx:evq S x=some (.iptr cells):=by rfl) (hc:cells.take n=vs:=by first | exact aCc rfl | rfl) (hn:Nat.beq vs.length n=true:=by rfl) (hn0:n≠0:=by intro h;cases h) (hl:eN vs=true:=by rfl) (hd:Nat.blt d N=true:=by rfl) (hgd:gd N ops S true g=some gs:=by rfl):Run Γ ops K (⟨some d,.load t x,ty,pos,af,g⟩::rest) acc ⟨S,O⟩:=.op (aJn hx hc hn hn0 hl hd) hgd rfl hrun
theorem qT {t e sz by_:Nat} {agg:Bool} [ht:SlT P t e] [hi:TI P e sz agg by_] (hrun:Run Γ ops K rest (⟨⟨[(d,⟨.ref d sz 0 0,false⟩)],[(d,some ⟨[],true,false⟩)]⟩,gs++[],[],[d]⟩::acc) ⟨[(d,⟨.ref d sz 0 0,false⟩)]++S,[(d,some ⟨[],true,false⟩)]++O⟩) (hio:Γ.io d=none:=by exact io1 (by assumption) _) (hd:Nat.blt d N=true:=by rfl) (hgd:gd N ops S true g=some gs:=by rfl) (hno:iZ ⟨S,O⟩ [d]=true:=by rfl):Run Γ ops K (⟨some d,.buildSlice t 0 #[],ty,pos,af,g⟩::rest) acc ⟨S,O⟩:=.op (aJX hio hd) hgd hno hrun
theorem cO {f:FuncId} [hfc:FnC P f] {xs:List Operand} {us:Array TypeId} {ps:List PV} {ls:List Nat} {s n:Nat} {cells:List PV} (hrun:Run Γ ops K rest (⟨⟨[(d,⟨.ref d s 0 n,false⟩)],[(d,some ⟨cells,true,false⟩)]⟩,gs++(wR xs),ls,[d]⟩::acc) ⟨[(d,⟨.ref d s 0 n,false⟩)]++S,[(d,some ⟨cells,true,false⟩)]++O⟩) (ha:ArgsV S O xs ps ls) (hm:Meets P f ps (.rw s n cells) true) (hio:Γ.io d=none:=by exact io1 (by assumption) _) (hd:Nat.blt d N=true:=by rfl) (hgd:gd N ops S true g=some gs:=by rfl) (hno:iZ ⟨S,O⟩ [d]=true:=by rfl):Run Γ ops K (⟨some d,.call ⟨.value (.func f),xs.toArray,us⟩,ty,pos,af,g⟩::rest) acc ⟨S,O⟩:=.op (aIP ha hm hio hd) hgd hno hrun
theorem aAX (scn:Bool) {x y:Operand} {t e sz by_ l n m:Nat} {agg dp:Bool} {zs cells ncells cells':List PV} {n':Nat} [ht:SlT P t e] [hi:TI P e sz agg by_] [hz:ZT P e zs] (hrun:Run Γ ops K rest (⟨⟨[(d,⟨.ref d sz 0 n',false⟩)],[(d,some ⟨cells',dp&&scn,false⟩),(l,none)]⟩,gs++(ors x++ors y),[l],[d]⟩::acc) ⟨[(d,⟨.ref d sz 0 n',false⟩)]++S,[(d,some ⟨cells',dp&&scn,false⟩),(l,none)]++O⟩) (hb:(n+m)*by_≤140737488355328) (hcat:cells++ncells=cells'∧n+m=n') (hx:evq S x=some (.ref l sz 0 n):=by rfl) (ho:loq O l=some ⟨cells,dp,false⟩:=by rfl) (hy:evq S y=some (.sl m ncells):=by rfl) (hlen:cells.length=n*sz:=by exact cB (fun _=>rfl)) (hnl:ncells.length=m*sz:=by rfl) (h63:0 < by_:=by decide) (hio:Γ.io d=none∧Γ.io l=none:=by exact ⟨io1 (by assumption) _,io1 (by assumption) _⟩) (hsc:scn=true→lP ncells=true:=by intro h;cases h) (hd:Nat.blt d N=true:=by rfl) (hgd:gd N ops S true g=some gs:=by rfl) (hno:iZ ⟨S,O⟩ [d]=true:=by rfl):Run Γ ops K (⟨some d,.call ⟨.builtin .append,#[x,y],#[t,t]⟩,ty,pos,af,g⟩::rest) acc ⟨S,O⟩:=.op (yH scn hx ho hy hlen hnl hb (aAV h63 hb) hio hsc hcat hd) hgd hno hrun
theorem qS  (hrun:Run Γ ops K rest (⟨⟨[(d,⟨.sc (.int k r),false⟩)],[]⟩,gs++(ors x++ors y),[],[]⟩::acc) ⟨[(d,⟨.sc (.int k r),false⟩)]++S,[]++O⟩) (hx:evq S x=some (.sc (.int k m)):=by rfl) (hy:evq S y=some (.sc (.int k n)):=by rfl) (hn:n≠0:=by intro h;cases h) (hr:m.tmod n=r:=by rfl) (hd:Nat.blt d N=true:=by rfl) (hgd:gd N ops S true g=some gs:=by rfl):Run Γ ops K (⟨some d,.binOp .rem u x y u',ty,pos,af,g⟩::rest) acc ⟨S,O⟩:=.op (aJL hx hy hn hr hd) hgd rfl hrun
theorem gX {x:Operand} {t n by_ l:Nat} {cells:List PV} {dp:Bool} [ht:TI P t n true by_] (hrun:Run Γ ops K rest (⟨⟨[(d,⟨.agg cells,dp⟩)],[(l,none)]⟩,gs++(ors x),[l],[]⟩::acc) ⟨[(d,⟨.agg cells,dp⟩)]++S,[(l,none)]++O⟩) (hx:evq S x=some (.ptr l 0):=by rfl) (ho:loq O l=some ⟨cells,dp,false⟩:=by rfl) (hn:Nat.beq cells.length n=true:=by rfl) (hn0:n≠0:=by intro h;cases h) (hnl:eN cells=true:=by rfl) (hio:Γ.io l=none:=by exact io1 (by assumption) _) (hd:Nat.blt d N=true:=by rfl) (hgd:gd N ops S true g=some gs:=by rfl):Run Γ ops K (⟨some d,.load t x,ty,pos,af,g⟩::rest) acc ⟨S,O⟩:=.op (aIO hx ho hn hn0 hnl hio hd) hgd rfl hrun
theorem fJ {f:FuncId} [hfc:FnC P f] {x y:Operand} {tus:Array TypeId} {l off m:Nat} {cells ws nw:List PV} {q p p':PV} {k k':Value} {cells':List PV} (hrun:Run Γ ops K rest (⟨⟨[(d,⟨.sc k',false⟩)],[(l,some ⟨cells',true,false⟩)]⟩,gs++(ors x++ors y),[l],[777777777]⟩::acc) ⟨[(d,⟨.sc k',false⟩)]++S,[(l,some ⟨cells',true,false⟩)]++O⟩) (hm:MarkC P f p p' k k') (hx:evq S x=some q:=by rfl) (hy:evq S y=some (.sc k):=by rfl) (ho:loq O l=some ⟨cells,true,false⟩:=by rfl) (hw:(cells.drop off).take m=ws:=by rfl) (hm0:Nat.beq ws.length m=true:=by rfl) (hne:Nat.blt 0 m=true:=by rfl) (hq:MCut ws q p p' nw:=by exact MCut.one) (hcat:cells.take off++nw++cells.drop (off+m)=cells':=by rfl) (hle:∀ b,¬Γ.lent b:=by assumption) (hd:Nat.blt d N=true:=by rfl) (hgd:gd N ops S true g=some gs:=by rfl) (hno:iZ ⟨S,O⟩ [777777777]=true:=by rfl):Run Γ ops K (⟨some d,.call ⟨.value (.func f),#[x,y],tus⟩,ty,pos,af,g⟩::rest) acc ⟨S,O⟩:=.op (aIS hx hy ho hw hm0 hne hq hm hcat hle hd) hgd hno hrun
theorem aBg {p q:Bool} [hu:UT P u .bool] (hrun:Run Γ ops K rest (⟨⟨[(d,⟨.sc (.bool (!(p == q))),false⟩)],[]⟩,gs++(ors x++ors y),[],[]⟩::acc) ⟨[(d,⟨.sc (.bool (!(p == q))),false⟩)]++S,[]++O⟩) (hx:evq S x=some (.sc (.bool p)):=by rfl) (hy:evq S y=some (.sc (.bool q)):=by rfl) (hd:Nat.blt d N=true:=by rfl) (hgd:gd N ops S true g=some gs:=by rfl):Run Γ ops K (⟨some d,.binOp .neq u x y u',ty,pos,af,g⟩::rest) acc ⟨S,O⟩:=.op (aJv hx hy hd) hgd rfl hrun
theorem sX {s i:Nat} {vs:List PV} {p:PV} (hrun:Run Γ ops K rest (⟨⟨[(d,⟨p,true⟩),(s,⟨.tup (vs.set i .any),true⟩)],[]⟩,gs++[s],[],[]⟩::acc) ⟨[(d,⟨p,true⟩),(s,⟨.tup (vs.set i .any),true⟩)]++S,[]++O⟩) (hx:lkq S s=some ⟨.tup vs,true⟩:=by rfl) (hp:vs[i]?=some p:=by rfl) (hl:p.labs=[]:=by rfl) (hne:Nat.beq s d=false:=by rfl) (hd:Nat.blt d N=true:=by rfl) (hgd:gd N ops S true g=some gs:=by rfl):Run Γ ops K (⟨some d,.extract (.tmp s) i,ty,pos,af,g⟩::rest) acc ⟨S,O⟩:=.op (aJq hx hp hl hne hd) hgd rfl hrun
theorem aGy {α:Type} {x:Operand} {lo hi:Option Operand} {t e n by_:Nat} {agg:Bool} {l r:List α} {enc:α→List PV} {i j:Int} {len:Nat} [ht:SlT P t e] [hi':TI P e n agg by_] (hrun:Run Γ ops K rest (⟨⟨[(d,⟨.sl r.length (r.flatMap enc),false⟩)],[]⟩,gs++(ors x++(aEi lo++aEi hi)),[],[]⟩::acc) ⟨[(d,⟨.sl r.length (r.flatMap enc),false⟩)]++S,[]++O⟩) (h:sub l i j=some r) (hx:evq S x=some (.sl len (l.flatMap enc)):=by rfl) (hlen:len=l.length:=by rfl) (hlo:sD S 0 lo=some i:=by rfl) (hhi:sD S len hi=some j:=by rfl) (hsz:∀ y,(enc y).length=n:=by intro _;rfl) (hd:Nat.blt d N=true:=by rfl) (hgd:gd N ops S true g=some gs:=by rfl):Run Γ ops K (⟨some d,.slice t x lo hi none,ty,pos,af,g⟩::rest) acc ⟨S,O⟩:=.op (aJK hx hlen hlo hhi h hsz hd) hgd rfl hrun
theorem uK  (hrun:Run Γ ops K rest (⟨⟨[(d,⟨.sc (.bool (decide (n≤m))),false⟩)],[]⟩,gs++(ors x++ors y),[],[]⟩::acc) ⟨[(d,⟨.sc (.bool (decide (n≤m))),false⟩)]++S,[]++O⟩) (hx:evq S x=some (.sc (.int k m)):=by rfl) (hy:evq S y=some (.sc (.int k n)):=by rfl) (hd:Nat.blt d N=true:=by rfl) (hgd:gd N ops S true g=some gs:=by rfl):Run Γ ops K (⟨some d,.binOp .geq u x y u',ty,pos,af,g⟩::rest) acc ⟨S,O⟩:=.op (aDR hx hy hd) hgd rfl hrun
theorem uW {x:Operand} {t e:Nat} [ht:SlT P t e] {l s off n:Nat} {ob:Ob} (hrun:Run Γ ops K rest (⟨⟨[(d,⟨.sc (.int .i64 n),false⟩)],[]⟩,gs++(ors x),[l],[]⟩::acc) ⟨[(d,⟨.sc (.int .i64 n),false⟩)]++S,[]++O⟩) (hx:evq S x=some (.ref l s off n):=by rfl) (ho:loq O l=some ob:=by rfl) (hd:Nat.blt d N=true:=by rfl) (hgd:gd N ops S true g=some gs:=by rfl):Run Γ ops K (⟨some d,.call ⟨.builtin .len,#[x],#[t]⟩,ty,pos,af,g⟩::rest) acc ⟨S,O⟩:=.op (aH6 hx ho hd) hgd rfl hrun
theorem yF  (hrun:Run Γ ops K rest (⟨⟨[(d,⟨.sc (.int k r),false⟩)],[]⟩,gs++(ors x++ors y),[],[]⟩::acc) ⟨[(d,⟨.sc (.int k r),false⟩)]++S,[]++O⟩) (hx:evq S x=some (.sc (.int k m)):=by rfl) (hy:evq S y=some (.sc (.int k n)):=by rfl) (hn:n≠0:=by intro h;cases h) (hr:k.wrap (m.tdiv n)=r:=by rfl) (hd:Nat.blt d N=true:=by rfl) (hgd:gd N ops S true g=some gs:=by rfl):Run Γ ops K (⟨some d,.binOp .quo u x y u',ty,pos,af,g⟩::rest) acc ⟨S,O⟩:=.op (aJM hx hy hn hr hd) hgd rfl hrun
theorem rJ {f:FuncId} [hfc:FnC P f] {k:Nat} {tus:Array TypeId} {p r:PV} (hrun:Run Γ ops K rest (⟨⟨[(d,⟨r,true⟩),(k,⟨.any,false⟩)],[]⟩,gs++[k],[],[]⟩::acc) ⟨[(d,⟨r,true⟩),(k,⟨.any,false⟩)]++S,[]++O⟩) (hm:MeetsD P f [(p,true)] r) (hk:lkq S k=some ⟨p,true⟩:=by rfl) (hl:p.labs=[]:=by rfl) (hr:r.labs=[]:=by rfl) (hd:Nat.blt d N=true:=by rfl) (hgd:gd N ops S true g=some gs:=by rfl):Run Γ ops K (⟨some d,.call ⟨.value (.func f),#[.tmp k],tus⟩,ty,pos,af,g⟩::rest) acc ⟨S,O⟩:=.op (aH9 hk hl hm hr hd) hgd rfl hrun
theorem aAk {t e sz by_ s:Nat} {agg:Bool} {ps:List PV} {p:PV} [ht:SlT P t e] [hi:TI P e sz agg by_] [hz:ZT P e ps] (hrun:Run Γ ops K rest (⟨⟨[(d,⟨.sl 1 (bO p),true⟩),(s,⟨.any,false⟩)],[]⟩,gs++[s],[],[]⟩::acc) ⟨[(d,⟨.sl 1 (bO p),true⟩),(s,⟨.any,false⟩)]++S,[]++O⟩) (hx:lkq S s=some ⟨p,true⟩:=by rfl) (hst:stB O false p=true:=by rfl) (hl:p.labs=[]:=by rfl) (hlen:Nat.beq (bO p).length sz=true:=by rfl) (hsz:Nat.blt 0 sz=true:=by rfl) (hs2:Nat.ble sz 1000=true:=by rfl) (hne:Nat.beq d s=false:=by rfl) (hd:Nat.blt d N=true:=by rfl) (hgd:gd N ops S true g=some gs:=by rfl):Run Γ ops K (⟨some d,.buildSlice t 1 #[(0,.tmp s)],ty,pos,af,g⟩::rest) acc ⟨S,O⟩:=.op (aIc hx hst hl hlen hsz hs2 hne hd) hgd rfl hrun
theorem aAl {x:Operand} {t e sz by_ l n m s:Nat} {agg dp:Bool} {zs cells ncells cells':List PV} {n':Nat} [ht:SlT P t e] [hi:TI P e sz agg by_] [hz:ZT P e zs] (hrun:Run Γ ops K rest (⟨⟨[(d,⟨.ref d sz 0 n',false⟩),(s,⟨.any,false⟩)],[(d,some ⟨cells',dp,false⟩),(l,none)]⟩,gs++(ors x++[s]),[l],[d]⟩::acc) ⟨[(d,⟨.ref d sz 0 n',false⟩),(s,⟨.any,false⟩)]++S,[(d,some ⟨cells',dp,false⟩),(l,none)]++O⟩) (hb:(n+m)*by_≤140737488355328) (hcat:cells++ncells=cells'∧n+m=n') (hx:evq S x=some (.ref l sz 0 n):=by rfl) (ho:loq O l=some ⟨cells,dp,false⟩:=by rfl) (hy:lkq S s=some ⟨.sl m ncells,true⟩:=by rfl) (hlen:cells.length=n*sz:=by exact cB (fun _=>rfl)) (hnl:ncells.length=m*sz:=by rfl) (h63:0 < by_:=by decide) (hio:Γ.io d=none∧Γ.io l=none:=by exact ⟨io1 (by assumption) _,io1 (by assumption) _⟩) (hd:Nat.blt d N=true:=by rfl) (hgd:gd N ops S true g=some gs:=by rfl) (hno:iZ ⟨S,O⟩ [d]=true:=by rfl):Run Γ ops K (⟨some d,.call ⟨.builtin .append,#[x,.tmp s],#[t,t]⟩,ty,pos,af,g⟩::rest) acc ⟨S,O⟩:=.op (aId hx ho hy hlen hnl hb (aAV h63 hb) hio hcat hd) hgd hno hrun
theorem aDP {t e sz by_:Nat} {agg:Bool} {ps:List PV} {x:Operand} {p:PV} [ht:SlT P t e] [hi:TI P e sz agg by_] [hz:ZT P e ps] (hrun:Run Γ ops K rest (⟨⟨[(d,⟨.sl 1 (bO p),true⟩)],[]⟩,gs++(ors x),[],[]⟩::acc) ⟨[(d,⟨.sl 1 (bO p),true⟩)]++S,[]++O⟩) (hx:evq S x=some p:=by rfl) (hst:stB O false p=true:=by rfl) (hsc:aAP p=true:=by rfl) (hl:p.labs=[]:=by rfl) (hlen:Nat.beq (bO p).length sz=true:=by rfl) (hsz:Nat.blt 0 sz=true:=by rfl) (hs2:Nat.ble sz 1000=true:=by rfl) (hd:Nat.blt d N=true:=by rfl) (hgd:gd N ops S true g=some gs:=by rfl):Run Γ ops K (⟨some d,.buildSlice t 1 #[(0,x)],ty,pos,af,g⟩::rest) acc ⟨S,O⟩:=.op (aGB hx hst hsc hl hlen hsz hs2 hd) hgd rfl hrun
theorem tW {f:FuncId} [hfc:FnC P f] {k:Nat} {y:Operand} {tus:Array TypeId} {p0 p r:PV} (hrun:Run Γ ops K rest (⟨⟨[(d,⟨r,true⟩),(k,⟨.any,false⟩)],[]⟩,gs++(ors y++[k]),[],[]⟩::acc) ⟨[(d,⟨r,true⟩),(k,⟨.any,false⟩)]++S,[]++O⟩) (hm:MeetsD P f [(p0,false),(p,true)] r) (hy:evq S y=some p0:=by rfl) (hn0:kK p0=true:=by rfl) (hl0:p0.labs=[]:=by rfl) (hk:lkq S k=some ⟨p,true⟩:=by rfl) (hl:p.labs=[]:=by rfl) (hr:r.labs=[]:=by rfl) (hd:Nat.blt d N=true:=by rfl) (hgd:gd N ops S true g=some gs:=by rfl):Run Γ ops K (⟨some d,.call ⟨.value (.func f),#[y,.tmp k],tus⟩,ty,pos,af,g⟩::rest) acc ⟨S,O⟩:=.op (aH8 hy hn0 hl0 hk hl hm hr hd) hgd rfl hrun
theorem wC {α:Type} {enc:α→List PV} {z:α} {t e sz by_:Nat} {agg:Bool} {x y:Operand} {k k':IntKind} {n n':Int} {ps:List PV} [ht:SlT P t e] [hi:TI P e sz agg by_] [hz:ZT P e ps] (hrun:Run Γ ops K rest (⟨⟨[(d,⟨.ref d sz 0 (List.replicate n.toNat z).length,false⟩)],[(d,some ⟨(List.replicate n.toNat z).flatMap enc,true,false⟩)]⟩,gs++(ors x++ors y),[],[d]⟩::acc) ⟨[(d,⟨.ref d sz 0 (List.replicate n.toNat z).length,false⟩)]++S,[(d,some ⟨(List.replicate n.toNat z).flatMap enc,true,false⟩)]++O⟩) (hb:0≤n∧n.toNat*by_≤281474976710656) (hx:evq S x=some (.sc (.int k n)):=by rfl) (hy:evq S y=some (.sc (.int k' n')):=by rfl) (hnn:n=n':=by rfl) (hez:enc z=ps:=by rfl) (hby:0 < by_:=by decide) (hsz:sz≠0:=by intro h;cases h) (hio:Γ.io d=none:=by exact io1 (by assumption) _) (hd:Nat.blt d N=true:=by rfl) (hgd:gd N ops S true g=some gs:=by rfl) (hno:iZ ⟨S,O⟩ [d]=true:=by rfl):Run Γ ops K (⟨some d,.makeSlice t x y,ty,pos,af,g⟩::rest) acc ⟨S,O⟩:=.op (aB1 hx hy hnn hb hez hby hsz hio hd) hgd hno hrun
theorem aC6 {t e by_ n:Nat} {agg:Bool} {ps:List PV} {parts:Array (Nat × Operand)} {vs:List Value} [ht:SlT P t e] [hi:TI P e 1 agg by_] [hz:ZT P e ps] (hrun:Run Γ ops K rest (⟨⟨[(d,⟨.ref d 1 0 n,false⟩)],[(d,some ⟨vs.map .sc,true,false⟩)]⟩,gs++(zW parts.toList),[],[d]⟩::acc) ⟨[(d,⟨.ref d 1 0 n,false⟩)]++S,[(d,some ⟨vs.map .sc,true,false⟩)]++O⟩) (hv:yP S parts.toList 0=some vs:=by rfl) (hn:Nat.beq vs.length n=true:=by rfl) (hpos:Nat.blt 0 n=true:=by rfl) (hs2:Nat.ble n 1000=true:=by rfl) (hio:Γ.io d=none:=by exact io1 (by assumption) _) (hd:Nat.blt d N=true:=by rfl) (hgd:gd N ops S true g=some gs:=by rfl) (hno:iZ ⟨S,O⟩ [d]=true:=by rfl):Run Γ ops K (⟨some d,.buildSlice t n parts,ty,pos,af,g⟩::rest) acc ⟨S,O⟩:=.op (aIb hv hn hpos hs2 hio hd) hgd hno hrun
theorem aDO  (hrun:Run Γ ops K rest (⟨⟨[(d,⟨.sc (.int k r),false⟩)],[]⟩,gs++(ors x++ors y),[],[]⟩::acc) ⟨[(d,⟨.sc (.int k r),false⟩)]++S,[]++O⟩) (hx:evq S x=some (.sc (.int k m)):=by rfl) (hy:evq S y=some (.sc (.int k n)):=by rfl) (hr:k.wrap (m*n)=r:=by rfl) (hd:Nat.blt d N=true:=by rfl) (hgd:gd N ops S true g=some gs:=by rfl):Run Γ ops K (⟨some d,.binOp .mul u x y u',ty,pos,af,g⟩::rest) acc ⟨S,O⟩:=.op (aJP hx hy hr hd) hgd rfl hrun
theorem aBf {x:Operand} {src dst:TypeId} {k q:IntKind} {n r:Int} {ds:TypeDesc} [hs:UT P src ds] [ht:UT P dst (.int q)] (hrun:Run Γ ops K rest (⟨⟨[(d,⟨.sc (.int q r),false⟩)],[]⟩,gs++(ors x),[],[]⟩::acc) ⟨[(d,⟨.sc (.int q r),false⟩)]++S,[]++O⟩) (hx:evq S x=some (.sc (.int k n)):=by rfl) (hr:q.wrap n=r:=by rfl) (hd:Nat.blt d N=true:=by rfl) (hgd:gd N ops S true g=some gs:=by rfl):Run Γ ops K (⟨some d,.convert src dst x,ty,pos,af,g⟩::rest) acc ⟨S,O⟩:=.op (aJs hx hr hd) hgd rfl hrun
theorem av {x:Operand} {p:PV} {m:List Nat} {xs:List Operand} {ps:List PV} (h:ArgsV S O xs ps m) (hx:evq S x=some p:=by rfl) (hl:p.labs=[]:=by rfl):ArgsV S O (x::xs) (p::ps) ([]++m):=.cons (.val hx hl) h
theorem ar {x:Operand} {l s n:Nat} {cells:List PV} {dp:Bool} {m:List Nat} {xs:List Operand} {ps:List PV} (h:ArgsV S O xs ps m) (hx:evq S x=some (.ref l s 0 n):=by rfl) (ho:loq O l=some ⟨cells,dp,false⟩:=by rfl) (hl:cells.length≤n*s:=by first | exact Nat.le_of_eq (cB (fun _=>rfl)) | exact Nat.le_of_ble_eq_true rfl):ArgsV S O (x::xs) (.sl n cells::ps) ([l]++m):=.cons (.ref hx ho hl) h
theorem avS {x:Operand} {p p':PV} {m:List Nat} {xs:List Operand} {ps:List PV} (h:ArgsV S O xs ps m) (hs:Soft p p') (hx:evq S x=some p:=by rfl) (hl:p.labs=[]:=by rfl):ArgsV S O (x::xs) (p'::ps) ([]++m):=.cons (.valS hx hl hs) h
theorem arS {x:Operand} {l s n:Nat} {cells cells':List PV} {dp:Bool} {m:List Nat} {xs:List Operand} {ps:List PV} (h:ArgsV S O xs ps m) (hl:SoftL cells cells') (hx:evq S x=some (.ref l s 0 n):=by rfl) (ho:loq O l=some ⟨cells,dp,false⟩:=by rfl):ArgsV S O (x::xs) (.sl n cells'::ps) ([l]++m):=.cons (.refS hx ho hl) h
theorem bs {pl:List (Nat × Nat)} {dp:Bool} {i off n:Nat} {x:Operand} {p:PV} {r:List (Nat × Operand)} {cells cells':List PV} {ks:List Nat} (h1:evq S x=some p:=by rfl) (h2:kK p=true:=by rfl) (h3:p.labs=[]:=by rfl) (h4:stB [] false p=true:=by rfl) (h5:pl[i]?=some (off,n):=by rfl) (h6:Nat.beq (bO p).length n=true:=by rfl) (h7:Nat.ble (off+n) cells.length=true:=by rfl) (h:BuildV S pl dp r (cells.take off++bO p++cells.drop (off+n)) cells' ks):BuildV S pl dp ((i,x)::r) cells cells' ks:=.sc h1 h2 h3 h4 h5 h6 h7 h
theorem bt {pl:List (Nat × Nat)} {dp:Bool} {i off n k:Nat} {p:PV} {r:List (Nat × Operand)} {cells cells':List PV} {ks:List Nat} (h1:lkq S k=some ⟨p,true⟩:=by rfl) (h3:p.labs=[]:=by rfl) (h4:stB [] false p=true:=by rfl) (h5:pl[i]?=some (off,n):=by rfl) (h6:Nat.beq (bO p).length n=true:=by rfl) (h7:Nat.ble (off+n) cells.length=true:=by rfl) (h8:uZ ks k=false:=by rfl) (h:BuildV S pl dp r (cells.take off++bO p++cells.drop (off+n)) cells' ks):BuildV S pl dp ((i,.tmp k)::r) cells cells' (k::ks):=.tk h1 h3 h4 h5 h6 h7 h8 h
theorem bh {pl:List (Nat × Nat)} {dp:Bool} {i off n:Nat} {x:Operand} {p:PV} {r:List (Nat × Operand)} {cells cells':List PV} {ks:List Nat} (h1:dp=false:=by rfl) (h2:evq S x=some p:=by rfl) (h3:p.labs=[]:=by rfl) (h4:stB [] false p=true:=by rfl) (h5:pl[i]?=some (off,n):=by rfl) (h6:Nat.beq (bO p).length n=true:=by rfl) (h7:Nat.ble (off+n) cells.length=true:=by rfl) (h:BuildV S pl dp r (cells.take off++bO p++cells.drop (off+n)) cells' ks):BuildV S pl dp ((i,x)::r) cells cells' ks:=.sh h1 h2 h3 h4 h5 h6 h7 h
end
end Go.Ev
