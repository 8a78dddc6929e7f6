/- Parts EvO, EvP, EvR, EvS, EvT, EvU, EvV, EvX, EvY, EvZ, EvW, EvAA, EvBB, EvCC, EvDD, EvEE, EvFF, EvGG, EvHH, EvII, EvJJ, EvKK, EvLL, EvMM, EvNN, EvOO, EvPP, EvQQ, EvRR. -/
import Derived.Test.YtfloffdjklhooaaDoorE2
import Derived.WalkKit
import Derived.ProofKit
import Derived.OpenShut
import Derived.Laws.IdiomStrings
import Derived.Laws.BytesArg
import Derived.Laws.Tables
import Derived.Great.FillDense
set_option linter.all false
/- The engine, part O: what was handed in, read as typed data; what a law's call leaves. -/
namespace Go.Ev
open Go.RowKit (Below)
open Go.ChangeShapes Go.WideShapes Go.ChangeAt
class Dec (P:Program) (t:Nat) {α:outParam Type} (enc:outParam (α→List PV)) (ok:outParam (α→Prop)):Prop where
  dec:∀ {H:Type} (e:TypeId × Value→H) (w:World) (fuel:Nat) (cs:List Value) (x:DataW H × List MemPlace),DataW.trod e P w 0 (fun _=>true) true fuel t cs=some x→∃ y:α,ok y∧cs.length=(enc y).length∧∃ B,RelL w.heap true dead (enc y) cs.toArray 0 B
def qO (k:IntKind) (n:Int):List PV:=[.sc (.int k n)]
def pD (s:ByteArray):List PV:=[.sc (.string s)]
def rO (b:Bool):List PV:=[.sc (.bool b)]
def pE {α:Type} (enc:α→List PV) (l:List α):List PV:=[.sl l.length (l.flatMap enc)]
def okI (k:IntKind) (n:Int):Prop:=(Lit.int k n).wf=true
def okS (s:ByteArray):Prop:=s.size≤maxLen
def okL {α:Type} (ok:α→Prop) (l:List α):Prop:=l.length≤maxLen∧∀ y ∈ l,ok y
section
variable {P:Program}
theorem fF {h:Array Obj} (v:Value) (hv:v.oneCell'=true):RelL h true dead [.sc v] [v].toArray 0 []:=by
  simp only [RelL]
  exact ⟨v,[],[],⟨by simp,fun _=>hv⟩,by simp [RelV],rfl,rfl⟩
theorem Dec.int {t:Nat} {k:IntKind} (ht:P.underlying t=some (.int k)):Dec P t (qO k) (okI k):=⟨fun e w fuel cs x h=>by
  obtain ⟨n,rfl,_,hw⟩:=DataW.trod_int ht h
  exact ⟨n,hw,rfl,[],fF _ rfl⟩⟩
theorem Dec.str {t:Nat} (ht:P.underlying t=some .string):Dec P t pD okS:=⟨fun e w fuel cs x h=>by
  obtain ⟨s,rfl,_,hs⟩:=DataW.trod_string ht h
  exact ⟨s,hs,rfl,[],fF _ rfl⟩⟩
theorem Dec.bool {t:Nat} (ht:P.underlying t=some .bool):Dec P t rO (fun _=>True):=⟨fun e w fuel cs x h=>by
  obtain ⟨b,rfl,_⟩:=DataW.trod_bool ht h
  exact ⟨b,trivial,rfl,[],fF _ rfl⟩⟩
theorem kC {α β:Type} (f:α→Option β):∀ (l:List α) (r:List β),l.mapM f=some r→r.length=l.length∧∀ (j:Nat) (x:α),l[j]?=some x→f x=r[j]?
  | [],r,h=>by
    simp at h;subst h;simp
  | x::l,r,h=>by
    rw [List.mapM_cons] at h
    cases hx:f x with
    | none=>rw [hx] at h;simp at h
    | some y =>
      rw [hx] at h
      cases hl:l.mapM f with
      | none=>rw [hl] at h;simp at h
      | some r' =>
        rw [hl] at h
        simp at h;subst h
        obtain ⟨h1,h2⟩:=kC f l r' hl
        refine ⟨by simp [h1],fun j z hz=>?_⟩
        cases j with
        | zero=>simp at hz;subst hz;simp [hx]
        | succ j=>simp at hz;simpa using h2 j z hz
theorem jK {w:World} {a:Addr} {n:Nat} {l:List Value} (h:w.cells? 0 a n=some l):l.length=n∧∀ j,j < n→w.cell? (a.add j)=l[j]?:=by
  unfold World.cells? at h
  rw [if_pos (Nat.zero_le _)] at h
  obtain ⟨h1,h2⟩:=kC _ _ _ h
  exact ⟨by simpa using h1,fun j hj=>h2 j j (by simp [hj])⟩
theorem mO {w:World} {a:Addr} {v:Value} (h:w.cell? a=some v):a.spot=none∧∃ cs t f,w.heap[a.block]?=some (.cells cs t f)∧cs[a.off]?=some v:=by
  unfold World.cell? at h
  split at h
  · rename_i c t f hc
    cases hs:a.spot with
    | none=>rw [hs] at h;simp at h;exact ⟨rfl,c,t,f,hc,h⟩
    | some s=>rw [hs] at h;simp at h
  · cases h
theorem Dec.slice {t e:Nat} {α:Type} {enc:α→List PV} {ok:α→Prop} (ht:P.underlying t=some (.slice e)) [hd:Dec P e enc ok] (sz:Nat) (hc:P.cellsOf e=sz) (h0:sz≠0) (hsz:∀ y,(enc y).length=sz):Dec P t (pE enc) (okL ok):=⟨fun {H} en w fuel cs x h=>by
  rcases DataW.trod_slice ht h with ⟨rfl,_⟩ | ⟨a,len,cap,elems,rest,n,_,rfl,_,_,hl,hm,hlen,hel,_,_⟩
  · exact ⟨[],⟨by simp [maxLen],by simp⟩,rfl,[],by
      simp only [pE,RelL]
      exact ⟨.slice none 0 0,[],[],⟨by simp,fun _=>rfl⟩,by simp only [RelV];exact .inl ⟨by simp,by simp,by simp,_,_,rfl⟩,rfl,rfl⟩⟩
  · rcases Nat.eq_zero_or_pos len with rfl | hpos
    · exact ⟨[],⟨by simp [maxLen],by simp⟩,rfl,[],by
        simp only [pE,RelL]
        exact ⟨.slice (some a) 0 cap,[],[],⟨by simp,fun _=>rfl⟩,by simp only [RelV];exact .inl ⟨by simp,by simp,by simp,_,_,rfl⟩,rfl,rfl⟩⟩
    · rw [hc] at hel
      have each:∀ i,i < len→∃ y:α,ok y∧∃ sub:List Value,w.cells? 0 (a.add (i*sz)) sz=some sub∧sub.length=(enc y).length∧∃ B,RelL w.heap true dead (enc y) sub.toArray 0 B:=by
        intro i hi
        have h1:=hel i hi
        rw [List.getElem?_eq_getElem (by omega)] at h1
        obtain ⟨sub,h2,h3⟩:=Option.bind_eq_some_iff.1 h1
        obtain ⟨y,g1,g2,g3⟩:=hd.dec en w n sub _ h3
        exact ⟨y,g1,sub,h2,g2,g3⟩
      obtain ⟨y0,_,sub0,q1,q2,_⟩:=each 0 hpos
      obtain ⟨q3,q4⟩:=jK q1
      have q5:=q4 0 (by omega)
      rw [List.getElem?_eq_getElem (by omega)] at q5
      obtain ⟨hsp,row,ut,fr,hrow,_⟩:=mO q5
      have ha:a.spot=none∧((a.add (0*sz)).add 0).block=a.block:=by
        cases hs:a.spot with
        | none=>refine ⟨rfl,?_⟩;unfold Addr.add;simp [hs]
        | some s =>
          exfalso
          have:((a.add (0*sz)).add 0).spot.isSome=true:=by
            unfold Addr.add;simp [hs]
          rw [hsp] at this;cases this
      obtain ⟨bl,off,sp⟩:=a
      obtain ⟨ha1,hbl⟩:=ha
      simp only at ha1;subst ha1
      rw [hbl] at hrow
      have cellAt:∀ k,w.cell? ⟨bl,k,none⟩=row[k]?:=fun k=>cell_of_row w bl k row ut fr hrow
      have build:∀ m,m≤len→∃ l:List α,l.length=m∧(∀ y ∈ l,ok y)∧∃ B,RelL w.heap true dead (l.flatMap enc) row off B:=by
        intro m
        induction m with
        | zero=>intro _;exact ⟨[],rfl,by simp,[],by simp [RelL]⟩
        | succ m ih =>
          intro hm'
          obtain ⟨l,l1,l2,B,l3⟩:=ih (by omega)
          obtain ⟨y,y1,sub,y2,y3,B2,y4⟩:=each m (by omega)
          obtain ⟨s1,s2⟩:=jK y2
          refine ⟨l++[y],by simp [l1],?_,B++B2,?_⟩
          · intro z hz
            rcases List.mem_append.1 hz with hz | hz
            · exact l2 z hz
            · simp at hz;subst hz;exact y1
          · rw [List.flatMap_append]
            refine (RelL.append _ _ _ _ _).2 ⟨B,B2,l3,?_,rfl⟩
            rw [lT hsz,l1]
            simp only [List.flatMap_cons,List.flatMap_nil,List.append_nil]
            refine RelL.shift _ _ _ _ _ _ (fun j hj=>?_) y4
            have:=s2 j (by omega)
            rw [Addr.add_lit,Addr.add_lit,cellAt] at this
            rw [Nat.zero_add,this];simp
      obtain ⟨l,l1,l2,B,l3⟩:=build len (Nat.le_refl _)
      refine ⟨l,⟨by omega,l2⟩,rfl,bl::B,?_⟩
      simp only [pE,RelL]
      refine ⟨.slice (some ⟨bl,off,none⟩) len cap,bl::B,[],⟨by simp,fun _=>rfl⟩,?_,rfl,by simp⟩
      simp only [RelV]
      exact .inr ⟨bl,off,cap,row,ut,fr,B,⟨by rw [l1],by rw [l1];exact hl⟩,hrow,l3,rfl⟩⟩
structure DecF (P:Program) (fs:List Field) (off:Nat) {α:Type} (enc:α→List PV) (ok:α→Prop):Prop where
  dec:∀ {H:Type} (e:TypeId × Value→H) (w:World) (fuel:Nat) (cs:List Value) (xs:List (DataW H × List MemPlace)),fs.mapM (fun f=>DataW.trod e P w 0 (fun _=>true) true fuel f.type ((cs.drop f.offset).take (P.cellsOf f.type)))=some xs→∃ y:α,ok y∧∃ B,RelL w.heap true dead (enc y) cs.toArray off B
theorem DecF.nil {off:Nat}:DecF P [] off (fun _:Unit=>[]) (fun _=>True):=⟨fun _ _ _ _ _ _=>⟨(),trivial,[],by simp [RelL]⟩⟩
theorem DecF.cons {f:Field} {fs:List Field} {off n:Nat} {α β:Type} {e1:α→List PV} {ok1:α→Prop} {e2:β→List PV} {ok2:β→Prop} (hf:f.offset=off) [hd:Dec P f.type e1 ok1] (hc:P.cellsOf f.type=n) (hn:∀ y,(e1 y).length=n) (h2:DecF P fs (off+n) e2 ok2) :
    DecF P (f::fs) off (fun y:α × β=>e1 y.1++e2 y.2) (fun y=>ok1 y.1∧ok2 y.2):=⟨fun {H} e w fuel cs xs h=>by
  rw [List.mapM_cons] at h
  cases hx:DataW.trod e P w 0 (fun _=>true) true fuel f.type ((cs.drop f.offset).take (P.cellsOf f.type)) with
  | none=>rw [hx] at h;simp at h
  | some x =>
    rw [hx] at h
    cases hl:fs.mapM (fun f=>DataW.trod e P w 0 (fun _=>true) true fuel f.type ((cs.drop f.offset).take (P.cellsOf f.type))) with
    | none=>rw [hl] at h;simp at h
    | some r =>
      obtain ⟨y1,o1,l1,B1,r1⟩:=hd.dec e w fuel _ _ hx
      obtain ⟨y2,o2,B2,r2⟩:=h2.dec e w fuel cs r hl
      refine ⟨(y1,y2),⟨o1,o2⟩,B1++B2,(RelL.append _ _ _ _ _).2 ⟨B1,B2,RelL.shift _ _ _ _ _ _ (fun j hj=>?_) r1,by rw [hn];exact r2,rfl⟩⟩
      rw [Nat.zero_add,List.getElem?_toArray,List.getElem?_toArray,List.getElem?_take,if_pos (by rw [hn] at hj;rw [hc];exact hj),List.getElem?_drop,hf]⟩
theorem Dec.struct {t:Nat} {fs:Array Field} {α β:Type} {enc:α→List PV} {ok:α→Prop} {enc':β→List PV} {ok':β→Prop} (ht:P.underlying t=some (.struct fs)) {n:Nat} (hc:P.cellsOf t=n) (h:DecF P fs.toList 0 enc ok) (g:α→β) (hg:∀ y,enc' (g y)=enc y) (ho:∀ y,ok y→ok' (g y)) (hn:∀ y,(enc' y).length=n):Dec P t enc' ok':=⟨fun {H} e w fuel cs x hx=>by
  cases fuel with
  | zero=>simp [DataW.trod] at hx
  | succ fuel =>
    have h1:(if cs.length=P.cellsOf t then (fs.toList.mapM fun f=>DataW.trod e P w 0 (fun _=>true) true fuel f.type ((cs.drop f.offset).take (P.cellsOf f.type))).map fun xs=>((DataW.agg (xs.map (·.1)):DataW H),xs.flatMap (·.2)) else none)=some x:=by
      rw [← hx]
      simp only [DataW.trod,ht]
    by_cases hl:cs.length=P.cellsOf t
    · rw [if_pos hl] at h1
      cases hm:(fs.toList.mapM fun f=>DataW.trod e P w 0 (fun _=>true) true fuel f.type ((cs.drop f.offset).take (P.cellsOf f.type))) with
      | none=>rw [hm] at h1;simp at h1
      | some xs =>
        obtain ⟨y,o,B,r⟩:=h.dec e w fuel cs xs hm
        exact ⟨g y,ho y o,by rw [hn,hl,hc],B,by rw [hg];exact r⟩
    · rw [if_neg hl] at h1;cases h1⟩
theorem pF {H:Type} {t:Nat} {α:Type} {enc:α→List PV} {ok:α→Prop} [hd:Dec P t enc ok] {e:TypeId × Value→H} {w:World} {b0:Nat} {v:Value} {d:DataW H} {ps:List MemPlace} {r:Reach} {fs:Array Field} (hu:P.underlying t=some (.struct fs)) (hv:Value.okWide P w r b0 t v) (h:DataW.Trod e P w 0 (fun _=>true) true t v d ps) :
    ∃ y:α,ok y∧∃ B,RelV w.heap dead (.agg (enc y)) v B:=by
  obtain ⟨fuel,hf⟩:=h
  unfold Value.okWide at hv
  rw [hu] at hv
  obtain ⟨cs,rfl,hsz,_⟩:=hv
  obtain ⟨y,o,hl,B,rl⟩:=hd.dec e w fuel _ _ hf
  refine ⟨y,o,B,?_⟩
  simp only [RelV]
  exact ⟨cs,rfl,by simpa [Value.cells] using hl,by simpa [Value.cells] using rl⟩
theorem fZ {H:Type} {enc:TypeId × Value→H} (hl:laidOutB P=true) {W W':World} (hb:Below W.heap.size W W'):∀ {ts:List TypeId} {vs:List Value} {ds:List (DataW H)} {ps:List MemPlace},ts.all (fun t=>P.readableRec t&&decide (t < P.types.size))=true→(∀ x ∈ ps,x.block < W.heap.size) →
    DataW.TrodAll enc P W 0 (fun _=>true) true ts vs ds ps→DataW.TrodAll enc P W' 0 (fun b=>decide (b < W.heap.size)) true ts vs ds ps
  | [],vs,ds,ps,_,_,h=>by
    obtain ⟨rfl,rfl,rfl⟩:=trodAll_nil h;exact trodAll_mk0
  | t::ts,vs,ds,ps,ht,hlt,h=>by
    obtain ⟨v,vs1,d,ds1,p,q,rfl,rfl,rfl,h1,h2⟩:=trodAll_cons h
    simp only [List.all_cons,Bool.and_eq_true,decide_eq_true_eq] at ht
    exact ⟨p,q,Below.trod hl ht.1.1 ht.1.2 h1 hb (fun x hx=>hlt x (by simp [hx])),fZ hl hb ht.2 (fun x hx=>hlt x (by simp [hx])) h2,rfl⟩
theorem mH {H:Type} {enc:TypeId × Value→H} {f:Func} {s:ChangeSpec} {W W':World} {args:Array Value} {ds gs:List (DataW H)} {before:List MemPlace} {T:TypeId}
    (hW:DataW.Whole enc P f.params.toList s.vars false W args.toList ds gs before) (hb:Below W.heap.size W W') (hl:laidOutB P=true) (hread:f.params.toList.all (fun t=>P.readableRec t&&decide (t < P.types.size))=true)
    (hres:f.resultTypes=#[T]) (hT:P.underlying T=some .bool) (hv:s.vars=[]) (hs:(s.fn H (ds++[])).results=[.lit (.bool true)]∧(s.fn H (ds++[])).args=ds∧(s.fn H (ds++[])).vars=[]) :
    s.post enc P f false true false false W args (.bool true) W':=by
  have hW0:=hW
  have hlt:=hW.lt
  obtain ⟨p,q,h1,h2,rfl,_,_⟩:=hW
  rw [hv] at h2
  obtain ⟨rfl,rfl⟩:=trodVars_none h2
  refine ⟨ds,[],p++[],[],p,[],hW0,?_,?_,?_,hb.frame _,fun h=>by cases h⟩
  · rw [hs.1,hres]
    exact trodAll_mk1 ⟨1,by simp [DataW.trod,Value.cells,hT]⟩
  · rw [hs.2.1]
    exact fZ hl hb hread (fun x hx=>hlt x (by simp [hx])) h1
  · rw [hs.2.2,hv];rfl
end
end Go.Ev
/- The engine, part P: ends of walks, in short. -/
namespace Go.Ev
open Go.RowKit (Below)
section
variable {P:Program} {N:Nat} {Γ:Ctx P N} {S:List (Nat × Slot)} {O:List (Nat × Option Ob)}
theorem RetIs.c1 {t ty l n by_:Nat} {cells:List PV} {dp dp0 deep:Bool} [ht:TI P ty n true by_] (h:lkq S t=some ⟨.ptr l 0,dp0⟩) (ho:loq O l=some ⟨cells,dp,false⟩) (hd:dp=true) (hn:Nat.beq cells.length n=true) (hn0:n≠0):RetIs Γ #[.cell t ty] ⟨S,O⟩ (.agg cells) deep:=by
  subst hd
  exact RetIs.one (Res1.cell h ho hn hn0) (fun _=>by simp)
theorem RetIs.r1 {t l s n:Nat} {cells:List PV} {dp dp0 deep:Bool} (h:lkq S t=some ⟨.ref l s 0 n,dp0⟩) (ho:loq O l=some ⟨cells,dp,false⟩) (hd:dp=true) (hio:Γ.io l=none):RetIs Γ #[.tmp t] ⟨S,O⟩ (.sl n cells) deep:=by
  subst hd
  exact RetIs.one (Res1.ref h ho hio) (fun _=>by simp)
end
end Go.Ev
/- The engine, part R: bytes and strings. -/
namespace Go.Ev
open Go.RowKit (Below)
section
variable {P:Program} {N:Nat} {Γ:Ctx P N} {S:List (Nat × Slot)} {O:List (Nat × Option Ob)}
variable {d:Nat} {ty:TypeId} {pos:String} {af:Array Edge} {g:Option (Nat × Bool)}
def u8s (bs:List UInt8):List PV:=bs.map fun b=>.sc (.int .u8 b.toNat)
theorem mX {h:Array Obj} {q:Bool} {β:Nat→Option (Option Nat)}:∀ {bs:List UInt8} {cs:Array Value} {i:Nat} {B:List Nat},RelL h q β (u8s bs) cs i B→∀ j (hj:j < bs.length),cs[i+j]?=some (.int .u8 (bs[j].toNat:Int))
  | [],_,_,_,_,j,hj=>by simp at hj
  | b::bs,cs,i,B,H,j,hj=>by
    simp only [u8s,List.map_cons,RelL] at H
    obtain ⟨c,B1,B2,h1,h2,h3,_⟩:=H
    simp only [RelV] at h2
    cases j with
    | zero=>rw [h2.1] at h1;simpa using h1.1
    | succ j =>
      have:=mX (bs:=bs) (cs:=cs) (i:=i+1) (B:=B2) (by simpa only [u8s] using h3) j (by simpa using hj)
      rw [show i+(j+1)=i+1+j by omega];simpa using this
theorem pK {x:Operand} {src dst e n:Nat} {cells:List PV} (bs:List UInt8) [hs:SlT P src e] [he:UT P e (.int .u8)] [ht:UT P dst .string] (hx:evq S x=some (.sl n cells)) (hc:cells=u8s bs∧n=bs.length) (hd:Nat.blt d N=true) :
    Local Γ ⟨some d,.convert src dst x,ty,pos,af,g⟩ ⟨S,O⟩ ⟨[(d,⟨.sc (.string ⟨bs.toArray⟩),false⟩)],[]⟩ (ors x) [] [] :=
  mC rfl hd fun F a w hsim hl=>by
    obtain ⟨ow,β,hsim⟩:=hsim
    obtain ⟨B,h1,_⟩:=bJ hsim hx hl
    obtain ⟨rfl,rfl⟩:=hc
    simp only [RelV] at h1
    have key:(convert src dst (a.eval x)).run P w=.ok (.string ⟨bs.toArray⟩) w:=by
      rcases h1 with ⟨h0,_,_,ad,cap,e1⟩ | ⟨b,off,cap,cs,u,f,B',⟨e1,_⟩,e2,e3,_⟩
      · have hb0:bs=[]:=List.length_eq_zero_iff.1 h0
        subst hb0
        rw [e1]
        cases ad with
        | none=>exact run_convert_bytes_nil w src e hs.ok he.ok 0 cap dst ht.ok
        | some ad=>exact run_convert_bytes_back w src dst e ad cap [] hs.ok he.ok ht.ok (by simp)
      · rw [e1]
        refine run_convert_bytes_back w src dst e ⟨b,off,none⟩ cap bs hs.ok he.ok ht.ok (fun j hj=>?_)
        rw [Addr.add_lit,cell_of_row w b (off+j) cs u f e2]
        exact mX e3 j hj
    simp [execOp,key]
end
end Go.Ev
/- The engine, part S: what a lifted function is made of; loops and cuts that go by it. -/
namespace Go.Ev
open Go.RowKit (Below)
def idx {α:Type} (l:List α) (j:Int):Option α:=if 0≤j then l[j.toNat]? else none
def sub {α:Type} (l:List α) (a b:Int):Option (List α):=if 0≤a∧a≤b∧b≤l.length then some ((l.drop a.toNat).take (b - a).toNat) else none
def rK {α:Type} (l:List α) (j:Int) (y:α):List α:=l.set j.toNat y
def chk (p:Prop) [Decidable p]:Option Unit:=if p then some () else none
def dH (s:ByteArray) (j:Int):Option Int:=if 0≤j∧j < s.size then some ((s.data.toList.getD j.toNat 0).toNat:Int) else none
def iO (s:ByteArray) (a b:Int):Option ByteArray:=if 0≤a∧a≤b∧b≤s.size then some (s.extract a.toNat b.toNat) else none
section lift
variable {α β:Type}
theorem aC {o:Option α} {K:α→Option β} {r:β} (H:o.bind K=some r):∃ x,o=some x∧K x=some r:=by
  cases o with
  | none=>cases H
  | some x=>exact ⟨x,rfl,H⟩
theorem ifT {c:Prop} {_:Decidable c} {a b:Option α} {r:α} (h:c) (H:(if c then a else b)=some r):a=some r:=by rw [if_pos h] at H;exact H
theorem ifF {c:Prop} {_:Decidable c} {a b:Option α} {r:α} (h:¬c) (H:(if c then a else b)=some r):b=some r:=by rw [if_neg h] at H;exact H
theorem pS {c:Bool} {a b:Option α} {r:α} (h:c=true) (H:(if c=true then a else b)=some r):a=some r:=by rw [if_pos h] at H;exact H
theorem pT {c:Bool} {a b:Option α} {r:α} (h:c=false) (H:(if c=true then a else b)=some r):b=some r:=by rw [h] at H;exact H
theorem pU {l:List α} {j:Int} {y:α} (h:idx l j=some y):0≤j∧l[j.toNat]?=some y∧j.toNat < l.length:=by
  unfold idx at h
  by_cases hj:0≤j
  · rw [if_pos hj] at h;exact ⟨hj,h,(List.getElem?_eq_some_iff.1 h).1⟩
  · rw [if_neg hj] at h;cases h
theorem cO {p:Prop} {_:Decidable p} {u:Unit} (h:chk p=some u):p:=by
  unfold chk at h
  by_cases hp:p
  · exact hp
  · rw [if_neg hp] at h;cases h
section loops
variable {σ ρ:Type}
inductive Reach (step:σ→Option (σ ⊕ ρ)):σ→ρ→Nat→Prop
  | done {s:σ} {r:ρ}:step s=some (.inr r)→Reach step s r 0
  | more {s s':σ} {r:ρ} {n:Nat}:step s=some (.inl s')→Reach step s' r n→Reach step s r (n+1)
theorem Reach.det {step:σ→Option (σ ⊕ ρ)} {s:σ} {r r':ρ} {n n':Nat} (h:Reach step s r n) (h':Reach step s r' n'):r=r':=by
  induction h generalizing n' with
  | done e=>cases h' with
    | done e'=>rw [e] at e';cases e';rfl
    | more e' _=>rw [e] at e';cases e'
  | more e _ ih=>cases h' with
    | done e'=>rw [e] at e';cases e'
    | more e' g=>rw [e] at e';cases e';exact ih g
open Classical in
noncomputable def lp (step:σ→Option (σ ⊕ ρ)) (s:σ):Option ρ:=if h:∃ r n,Reach step s r n then some h.choose else none
theorem iI {step:σ→Option (σ ⊕ ρ)} {s:σ} {r:ρ}:lp step s=some r↔∃ n,Reach step s r n:=by
  unfold lp
  constructor
  · intro h
    split at h
    · rename_i hx;cases h;exact hx.choose_spec
    · cases h
  · rintro ⟨n,h⟩
    rw [dif_pos ⟨r,n,h⟩]
    have hx:∃ r n,Reach step s r n:=⟨r,n,h⟩
    obtain ⟨m,hm⟩:=hx.choose_spec
    exact congrArg some (hm.det h)
theorem kU {step:σ→Option (σ ⊕ ρ)} {s:σ} {r:ρ} (h:step s=some (.inr r)):lp step s=some r:=iI.2 ⟨0,.done h⟩
theorem nA {step:σ→Option (σ ⊕ ρ)} {s s':σ} (h:step s=some (.inl s')):lp step s=lp step s':=by
  apply Option.ext
  intro r
  rw [iI,iI]
  constructor
  · rintro ⟨n,hn⟩
    cases hn with
    | done e=>rw [h] at e;cases e
    | more e g=>rw [h] at e;cases e;exact ⟨_,g⟩
  · rintro ⟨n,hn⟩;exact ⟨n+1,.more h hn⟩
end loops
end lift
section
variable {P:Program} {N:Nat} {Γ:Ctx P N} {E:Env} {Q:Exit→Env→Prop}
def dS {σ ρ:Type} (Γ:Ctx P N) (Es:σ→Env) (Xe:ρ→Exit→Env→Prop) (o:σ ⊕ ρ):Exit→Env→Prop
  | .normal,E=>∃ s',o=.inl s'∧Ent Γ E (Es s')
  | e,E=>∃ x,o=.inr x∧Xe x e E
theorem CodeT.lloop {σ ρ:Type} {step:σ→Option (σ ⊕ ρ)} {s0:σ} {x:ρ} {c:Code} (Es:σ→Env) (Xe:ρ→Exit→Env→Prop) (hx:lp step s0=some x) (he:Ent Γ E (Es s0))
    (hr:∀ s o,step s=some o→CodeT Γ c (Es s) (dS Γ Es Xe o)) (hq:∀ e E',Xe x e E'→Q e E'):CodeT Γ (.loop c) E Q:=by
  obtain ⟨n,hn⟩:=iI.1 hx
  refine CodeT.loop (fun m E=>∃ s,E=Es s∧Reach step s x m) n (Es s0) he ⟨s0,rfl,hn⟩ ?_
  rintro m E' ⟨s,rfl,hs⟩
  cases hs with
  | done e =>
    refine (hr s _ e).mono fun ex E' h=>?_
    cases ex with
    | normal=>obtain ⟨s',h1,_⟩:=h;cases h1
    | exit i=>obtain ⟨y,h1,h2⟩:=h;cases h1;exact hq _ _ h2
    | goto i=>obtain ⟨y,h1,h2⟩:=h;cases h1;exact hq _ _ h2
    | ret=>obtain ⟨y,h1,h2⟩:=h;cases h1;exact hq _ _ h2
    | panic i=>obtain ⟨y,h1,h2⟩:=h;cases h1;exact hq _ _ h2
    | outgrown=>obtain ⟨y,h1,h2⟩:=h;cases h1;exact hq _ _ h2
  | @more _ s' _ k e g =>
    refine (hr s _ e).mono fun ex E' h=>?_
    cases ex with
    | normal =>
      obtain ⟨s2,h1,h2⟩:=h;cases h1
      exact ⟨k,Es s',by omega,h2,s',rfl,g⟩
    | exit i=>obtain ⟨y,h1,h2⟩:=h;cases h1
    | goto i=>obtain ⟨y,h1,h2⟩:=h;cases h1
    | ret=>obtain ⟨y,h1,h2⟩:=h;cases h1
    | panic i=>obtain ⟨y,h1,h2⟩:=h;cases h1
    | outgrown=>obtain ⟨y,h1,h2⟩:=h;cases h1
def mS {ρ:Type} (Xe:ρ→Exit→Env→Prop) (x:ρ):Exit→Env→Prop:=fun e E=>Xe x e E
theorem CodeT.lcut {ρ:Type} {x:ρ} {c:Code} (Xe:ρ→Exit→Env→Prop) (hc:CodeT Γ c E (mS Xe x)) (hq:∀ e E',Xe x e E'→Q e E'):CodeT Γ c E Q:=hc.mono hq
section
variable {σ ρ:Type} {Es:σ→Env} {Xe:ρ→Exit→Env→Prop} {s':σ} {x:ρ} {i:Nat}
theorem y1 (h:Ent Γ E (Es s')):dS Γ Es Xe (.inl s') .normal E:=⟨s',rfl,h⟩
theorem y2 (h:Xe x .ret E):dS Γ Es Xe (.inr x) .ret E:=⟨x,rfl,h⟩
theorem y3 (h:Xe x (.exit i) E):dS Γ Es Xe (.inr x) (.exit i) E:=⟨x,rfl,h⟩
theorem y4 {e:Exit} (h:Xe x e E):mS Xe x e E:=h
end
def XEnv (Γ:Ctx P N) (e0:Exit) (E0:Env) (e:Exit) (E:Env):Prop:=e=e0∧Ent Γ E E0
def XRet (Γ:Ctx P N) (rs:Array ResultVar) (r:PV) (deep:Bool) (e:Exit) (E:Env):Prop:=e=.ret∧RetIs Γ rs E r deep
theorem XEnv.out {e0 e:Exit} {E0 E:Env} (h:XEnv Γ e0 E0 e E):e=e0∧Ent Γ E E0:=h
theorem XRet.out {rs:Array ResultVar} {r:PV} {deep:Bool} {e:Exit} {E:Env} (h:XRet Γ rs r deep e E):e=.ret∧RetIs Γ rs E r deep:=h
theorem XEnv.mk {e:Exit} {E0:Env} (h:Ent Γ E E0):XEnv Γ e E0 e E:=⟨rfl,h⟩
theorem XRet.mk {rs:Array ResultVar} {r:PV} {deep:Bool} (h:RetIs Γ rs E r deep):XRet Γ rs r deep .ret E:=⟨rfl,h⟩
end
end Go.Ev
/- The engine, part T: more operations: parts of slices and strings, components, literals of several elements; elements by a lifted index. -/
namespace Go.Ev
open Go.RowKit (Below)
section
variable {P:Program} {N:Nat} {Γ:Ctx P N} {S:List (Nat × Slot)} {O:List (Nat × Option Ob)}
variable {d:Nat} {ty:TypeId} {pos:String} {af:Array Edge} {g:Option (Nat × Bool)}
def nY:Option Operand→List Nat
  | some x=>ors x
  | none=>[]
def eT (S:List (Nat × Slot)) (dflt:Int):Option Operand→Option Int
  | none=>some dflt
  | some x=>match evq S x with
    | some (.sc (.int _ j))=>some j
    | _=>none
theorem lW {F:Env} {a:Act} {w:World} (h:Sim Γ F a w) {df j:Int} {x:Option Operand} (hb:eT S df x=some j) (ha:∀ k ∈ nY x,lk F.s k=lk S k) :
    (x=none∧j=df)∨∃ y k,x=some y∧a.eval y=.int k j:=by
  cases x with
  | none=>simp only [eT] at hb;cases hb;exact .inl ⟨rfl,rfl⟩
  | some y =>
    simp only [eT] at hb
    split at hb
    · rename_i k j' hv;cases hb
      exact .inr ⟨y,k,rfl,eH h hv ha⟩
    · cases hb
theorem cV (w:World) (k:IntKind) (i:Int) (y:Nat) (code:BoundsCode) (h:0≤i∧i≤y):(Instr.sliceBound (.int k i) y code).run P w=.ok i.toNat w:=by
  simp [Instr.sliceBound,asIntOf,h.1,h.2]
theorem mF {F:Env} {a:Act} {w:World} (h:Sim Γ F a w) (isS:Bool) (len cap:Nat) (hc:len≤cap) {lo hi:Option Operand} {i j:Int} (hlo:eT S 0 lo=some i) (hhi:eT S len hi=some j) (h1:∀ k ∈ nY lo,lk F.s k=lk S k) (h2:∀ k ∈ nY hi,lk F.s k=lk S k)
    (hb:0≤i∧i≤j∧j≤len):(Instr.sliceBounds isS len cap (lo.map a.eval) (hi.map a.eval) none).run P w=.ok (i.toNat,j.toNat,cap) w:=by
  rcases lW h hlo h1 with ⟨rfl,rfl⟩ | ⟨y,k,rfl,e1⟩ <;> rcases lW h hhi h2 with ⟨rfl,rfl⟩ | ⟨z,k',rfl,e2⟩
  · simp [Instr.sliceBounds]
  · simp [Instr.sliceBounds,e2]
    rw [cV w _ _ _ _ ⟨by omega,by omega⟩];simp
  · simp [Instr.sliceBounds,e1]
    rw [cV w _ _ _ _ ⟨by omega,by omega⟩];simp
  · simp [Instr.sliceBounds,e1,e2]
    rw [cV w _ _ _ _ ⟨by omega,by omega⟩]
    simp only [Result.andThen_ok]
    rw [cV w _ _ _ _ ⟨by omega,by omega⟩]
    simp
theorem oW {s r:ByteArray} {i j:Int} (h:iO s i j=some r):(0≤i∧i≤j∧j≤s.size)∧r=s.extract i.toNat j.toNat:=by
  unfold iO at h
  by_cases hc:0≤i∧i≤j∧j≤s.size
  · rw [if_pos hc] at h;cases h;exact ⟨hc,rfl⟩
  · rw [if_neg hc] at h;cases h
theorem pJ {x:Operand} {lo hi:Option Operand} {t:Nat} {s r:ByteArray} {i j:Int} [ht:UT P t .string] (hx:evq S x=some (.sc (.string s))) (hlo:eT S 0 lo=some i) (hhi:eT S s.size hi=some j) (h:iO s i j=some r) (hd:Nat.blt d N=true) :
    Local Γ ⟨some d,.slice t x lo hi none,ty,pos,af,g⟩ ⟨S,O⟩ ⟨[(d,⟨.sc (.string r),false⟩)],[]⟩ (ors x++(nY lo++nY hi)) [] [] :=
  mC rfl hd fun F a w hsim hs=>by
    obtain ⟨hb,hr⟩:=oW h
    have hx':=eH hsim hx (fun k hk=>hs k (by simp [hk]))
    have hbd:=mF hsim false s.size s.size (Nat.le_refl _) hlo hhi (fun k hk=>hs k (by simp [hk])) (fun k hk=>hs k (by simp [hk])) hb
    simp [execOp,hx',Instr.sliceAt,Instr.slice,run_underlying ht.ok,hbd,hr]
theorem oR {α:Type} {x i:Operand} {t e sz n by_ r:Nat} {agg:Bool} {l:List α} {y:α} {k:IntKind} {j:Int} {ob:Ob} [ht:SlT P t e] [hi:TI P e sz agg by_] (hx:evq S x=some (.ref r sz 0 n)) (ho:loq O r=some ob) (hix:evq S i=some (.sc (.int k j))) (hl:idx l j=some y) (hn:n=l.length) (hd:Nat.blt d N=true) :
    Local Γ ⟨some d,.indexAddr t x i,ty,pos,af,g⟩ ⟨S,O⟩ ⟨[(d,⟨.ptr r (j.toNat*sz),false⟩)],[]⟩ (ors x++ors i) [r] [] :=
  rJ (m:=j.toNat) hx ho hix (by have:=(pU hl).1;omega) (by rw [hn];exact (pU hl).2.2) hd
theorem bK {x i:Operand} {t:Nat} {s:ByteArray} {k:IntKind} {j y:Int} [ht:UT P t .string] (hx:evq S x=some (.sc (.string s))) (hi:evq S i=some (.sc (.int k j))) (hb:dH s j=some y) (hd:Nat.blt d N=true) :
    Local Γ ⟨some d,.index t x i,ty,pos,af,g⟩ ⟨S,O⟩ ⟨[(d,⟨.sc (.int .u8 y),false⟩)],[]⟩ (ors x++ors i) [] []:=by
  unfold dH at hb
  by_cases h:0≤j∧j < s.size
  · rw [if_pos h] at hb;cases hb;exact oS hx hi h hd
  · rw [if_neg h] at hb;cases hb
def gF (x:Int):ByteArray:=⟨#[UInt8.ofNat x.toNat]⟩
theorem iH (n:Int):0≤IntKind.u8.wrap n∧IntKind.u8.wrap n < 256:=by rw [IntKind.wrap_u8];omega
theorem hM {x:Operand} {src dst e:Nat} {v:Int} [hs:SlT P src e] [he:UT P e (.int .u8)] [ht:UT P dst .string] (hx:evq S x=some (.sl 1 [.sc (.int .u8 v)])) (hv:0≤v∧v < 256) (hd:Nat.blt d N=true) :
    Local Γ ⟨some d,.convert src dst x,ty,pos,af,g⟩ ⟨S,O⟩ ⟨[(d,⟨.sc (.string (gF v)),false⟩)],[]⟩ (ors x) [] [] :=
  pK [UInt8.ofNat v.toNat] hx ⟨by
    have:((UInt8.ofNat v.toNat).toNat:Int)=v:=by simp;omega
    simp only [u8s,List.map_cons,List.map_nil];rw [this],rfl⟩ hd
def gW (S:List (Nat × Slot)):List (Nat × Operand)→Nat→Option (List Value)
  | [],_=>some []
  | (i,x)::r,k=>bif Nat.beq i k then (match evq S x with
    | some (.sc v)=>bif v.oneCell' then (match gW S r (k+1) with
      | some vs=>some (v::vs)
      | none=>none) else none
    | _=>none) else none
def nZ:List (Nat × Operand)→List Nat
  | []=>[]
  | (_,x)::r=>ors x++nZ r
theorem jA {F:Env} {a:Act} {w:World} (h:Sim Γ F a w):∀ {ps:List (Nat × Operand)} {k:Nat} {vs:List Value},gW S ps k=some vs→(∀ j ∈ nZ ps,lk F.s j=lk S j) →
    ps.map (fun p=>(p.1,a.eval p.2))=(vs.zipIdx k).map (fun x=>(x.2,x.1))∧vs.length=ps.length∧∀ v ∈ vs,v.oneCell'=true
  | [],_,vs,hv,_=>by simp only [gW] at hv;cases hv;simp
  | (i,x)::r,k,vs,hv,hs=>by
    simp only [gW] at hv
    cases hb:Nat.beq i k with
    | false=>rw [hb] at hv;cases hv
    | true =>
      rw [hb] at hv
      simp only [cond_true] at hv
      split at hv
      · rename_i v hx
        cases hc:v.oneCell' with
        | false=>rw [hc] at hv;cases hv
        | true =>
          rw [hc] at hv
          simp only [cond_true] at hv
          split at hv
          · rename_i vs' hvs;cases hv
            obtain ⟨g1,g2,g3⟩:=jA h hvs (fun j hj=>hs j (by simp [nZ,hj]))
            have e:=eH h hx (fun j hj=>hs j (by simp [nZ,hj]))
            have:=Nat.eq_of_beq_eq_true hb
            subst this
            exact ⟨by simp [e,g1],by simp [g2],fun u hu=>by rcases List.mem_cons.1 hu with rfl | hu;exact hc;exact g3 u hu⟩
          · cases hv
      · cases hv
theorem gA {v:Value} (h:v.oneCell'=true):v.cells=#[v]:=by
  cases v <;> simp_all [Value.oneCell',Value.cells]
theorem lJ {h:Array Obj} {β:Nat→Option (Option Nat)}:∀ {vs pre:List Value},(∀ v ∈ vs,v.oneCell'=true)→RelL h true β (vs.map .sc) (pre++vs).toArray pre.length []
  | [],_,_=>by simp [RelL]
  | v::vs,pre,hv=>by
    simp only [List.map_cons,RelL]
    refine ⟨v,[],[],⟨by simp,fun _=>hv v (by simp)⟩,by simp [RelV],?_,rfl⟩
    have:=lJ (h:=h) (β:=β) (vs:=vs) (pre:=pre++[v]) (fun u hu=>hv u (by simp [hu]))
    simpa using this
theorem jH:∀ {vs:List Value},(∀ v ∈ vs,v.oneCell'=true)→(vs.flatMap fun v=>v.cells.toList)=vs
  | [],_=>rfl
  | v::r,h=>by simp only [List.flatMap_cons];rw [gA (h v List.mem_cons_self),jH (fun u hu=>h u (List.mem_cons_of_mem _ hu))];rfl
theorem pP {t e by_ n:Nat} {agg:Bool} {ps:List PV} {parts:Array (Nat × Operand)} {vs:List Value} [ht:SlT P t e] [hi:TI P e 1 agg by_] [hz:ZT P e ps] (hv:gW S parts.toList 0=some vs) (hn:Nat.beq vs.length n=true) (hpos:Nat.blt 0 n=true) (hs2:Nat.ble n 1000=true) (hio:Γ.io d=none) (hd:Nat.blt d N=true) :
    Local Γ ⟨some d,.buildSlice t n parts,ty,pos,af,g⟩ ⟨S,O⟩ ⟨[(d,⟨.ref d 1 0 n,false⟩)],[(d,some ⟨vs.map .sc,true,false⟩)]⟩ (nZ parts.toList) [] [d]:=by
  intro F hs _ hnl
  refine aP fun a w hsim=>?_
  obtain ⟨g1,g2,g3⟩:=jA hsim hv hs
  obtain ⟨ow,β,hsim⟩:=hsim
  have hn:=Nat.eq_of_beq_eq_true hn
  have hpos:=(aH _ _).1 hpos
  have hs2:=Nat.le_of_ble_eq_true hs2
  obtain ⟨i,z,h1,h2,h3,h4,_⟩:=hz.ok
  obtain ⟨⟨i',q1,q2,q3⟩,_⟩:=hi.ok
  rw [h1] at q1;cases q1
  have hcells:(vs.flatMap fun v=>v.cells.toList)=vs:=jH g3
  have run:(Instr.buildSlice t n (parts.map fun (i,x)=>(i,a.eval x))).run P w=.ok (.slice (some ⟨w.heap.size,0,none⟩) n n) (w.alloc (.cells vs.toArray e)):=by
    refine run_buildSlice w t e n _ vs.toArray i z ht.ok h1 h2 (by rw [q2];omega) (by rw [q2];omega) ?_
    have:=Go.Great.fill_whole (s:=i.size) (by omega) vs ((Array.range (n*i.size)).map (z.cells[· % z.cells.size]!)) (fun v hv=>by rw [gA (g3 v hv),q2];rfl) (by simp [hn])
    rw [hcells] at this
    rw [← this]
    congr 1
    rw [← g1];simp
  refine ⟨_,_,by simp only [execOp];rw [Sem.run_bind,run];rfl,?_⟩
  refine hsim.layPut (gG w _) (b0:=w.heap.size) (by simp) (fun b hb _=>eL w _ hb) (dL w _) (hnl d (by simp)) hio [] [] (.inl (Nat.le_refl _)) (.inl hsim.kept.size) ⟨vs.map .sc,true,false⟩ (B:=[]) (by simpa using lJ (pre:=[]) g3) (by simp) (by simp) (by simp) ((aH _ _).1 hd) (fun β' hβ=>?_)
  simp only [RelV]
  refine ⟨trivial,fun h=>by rw [hβ] at h;simp at h,fun b hb=>?_⟩
  rw [hβ] at hb;cases hb
  exact ⟨n,vs.toArray,e,by simp,dL w _,by simp [hn],Nat.le_refl _⟩
theorem RetIs.weak {E E0:Env} {rs:Array ResultVar} {r:PV} {deep:Bool} (he:Ent Γ E E0) (h:RetIs Γ rs E0 r deep):RetIs Γ rs E r deep:=fun fn hf a w hs=>h fn hf a w (he a w hs)
end
theorem mW {α:Type} {l:List α} {enc:α→List PV} {j:Int} {y:α} {sz:Nat} {c:PV} (hl:idx l j=some y) (ho:(enc y)[0]?=some c) (h:∀ y,(enc y).length=sz):(l.flatMap enc)[j.toNat*sz]?=some c:=nO (pU hl).2.1 ho h
end Go.Ev
/- The engine, part U: small helps of lifted walks. -/
namespace Go.Ev
theorem rL {x:Bool} (h:(!x)=true):x=false:=by simpa using h
theorem rM {x:Bool} (h:(!x)=false):x=true:=by simpa using h
section
variable {P:Program} {N:Nat} {Γ:Ctx P N} {S:List (Nat × Slot)} {O:List (Nat × Option Ob)}
variable {d:Nat} {ty:TypeId} {pos:String} {af:Array Edge} {g:Option (Nat × Bool)}
theorem lE {α:Type} {l:List α} {j:Int} {y:α}:(rK l j y).length=l.length:=List.length_set
theorem Ent.relen {k l s off n n':Nat} {dp:Bool} (hk:lkq S k=some ⟨.ref l s off n,dp⟩) (hn:n=n'):Ent Γ ⟨S,O⟩ ⟨(k,⟨.ref l s off n',dp⟩)::S,O⟩:=by
  subst hn
  intro a w h
  refine Sim.congr (E:=⟨S,O⟩) (fun j=>?_) (fun _=>rfl) h
  simp only []
  rw [bY]
  by_cases hj:k=j
  · subst hj;rw [if_pos rfl,cK hk]
  · rw [if_neg hj]
end
end Go.Ev
namespace Go.Ev
def bQ {α:Type} (x:α):Option α:=some x
theorem jR {α:Type} {e x:α} (h:bQ e=some x):e=x:=Option.some.inj h
theorem eE {α β:Type} (e:α) (f:α→Option β):(bQ e).bind f=f e:=rfl
section
variable {P:Program} {N:Nat} {Γ:Ctx P N} {S:List (Nat × Slot)} {O:List (Nat × Option Ob)}
variable {d:Nat} {ty:TypeId} {pos:String} {af:Array Edge} {g:Option (Nat × Bool)}
theorem aI {x y:Operand} {u u':TypeId} {s t r:ByteArray} (hx:evq S x=some (.sc (.string s))) (hy:evq S y=some (.sc (.string t))) (hb:s.size+t.size≤9223372036854775807) (hr:bQ (s++t)=some r) (hd:Nat.blt d N=true) :
    Local Γ ⟨some d,.binOp .add u x y u',ty,pos,af,g⟩ ⟨S,O⟩ ⟨[(d,⟨.sc (.string r),false⟩)],[]⟩ (ors x++ors y) [] []:=by
  rw [← jR hr];exact qD hx hy hb hd
end
end Go.Ev
/- The engine, part V: functions that write rows handed in; results that are rows. -/
namespace Go.Ev
open Go.RowKit (Below)
def oL:List (Nat × Nat)→Bool
  | []=>true
  | (a,b)::r=>Nat.blt a 100000&&Nat.blt b 100000&&oL r
section
variable {P:Program} {N:Nat} {Γ:Ctx P N}
theorem io1 (h:∀ l,Nat.blt l 100000=true→Γ.io l=none) (l:Nat) (hl:Nat.blt l 100000=true:=by rfl):Γ.io l=none:=h l hl
theorem io0 (h:∀ l,Nat.blt l 100000=true→Γ.io l=none) (ρ:List (Nat × Nat)) (hρ:oL ρ=true:=by rfl):∀ l,Γ.io (rn ρ l)=Γ.io l∧(Γ.io l≠none→rn ρ l=l):=by
  induction ρ with
  | nil=>intro l;exact ⟨rfl,fun _=>rfl⟩
  | cons x r ih =>
    obtain ⟨a,b⟩:=x
    simp only [oL,Bool.and_eq_true] at hρ
    intro l
    simp only [rn,cZ]
    by_cases hal:a=l
    · subst hal
      simp only [decide_true,cond_true]
      rw [h b hρ.1.2,h a hρ.1.1]
      exact ⟨rfl,fun e=>absurd rfl e⟩
    · simp only [hal,decide_false,cond_false]
      exact ih hρ.2 l
theorem Meets.intro2 {f:FuncId} {fn:Func} {c:Code} {args:List PV} {r:PV} {deep:Bool} {rs:Array ResultVar} (hf:P.funcs[f]?=some fn) (hb:fn.body=some c) (hN:fn.ntmps=N) (hrs:fn.results=rs) (hn:Nat.ble args.length N=true)
    (h:∀ Γ:Ctx P N,(∀ l,Nat.blt l 100000=true→Γ.io l=none)→CodeT Γ c ⟨bH args 0,[]⟩ (gM Γ rs r deep)):Meets P f args r deep :=
  Meets.intro hf hb hN hrs hn (fun Γ hΓ=>h Γ (fun l _=>by rw [hΓ]))
end
structure XO where
  l:Nat
  old:List PV
  new:List PV
def XOb (w:World) (ok:Nat→Prop) (κ:Nat→Option (Option Nat)) (o:XO):Prop :=
  (κ o.l=some none∧o.old=[])∨∃ b cs t,κ o.l=some (some b)∧¬ok b∧w.heap[b]?=some (.cells cs t (0,0))∧RelL w.heap true dead o.old cs 0 []
def nF (w w':World) (κ:Nat→Option (Option Nat)) (o:XO):Prop :=
  (κ o.l=some none→o.new=[])∧∀ b,κ o.l=some (some b)→∀ cs t,w.heap[b]?=some (.cells cs t (0,0))→∃ cs',w'.heap[b]?=some (.cells cs' t (0,0))∧cs'.size=cs.size∧RelL w'.heap true dead o.new cs' 0 []
def XArgs (h:Array Obj) (ok:Nat→Prop) (κ:Nat→Option (Option Nat)):List PV→List Value→Prop
  | [],[]=>True
  | p::ps,c::cs=>(∃ B,RelV h κ p c B∧∀ b ∈ B,ok b)∧XArgs h ok κ ps cs
  | _,_=>False
def MeetsX (P:Program) (f:FuncId) (args:List PV) (objs:List XO) (r:PV) (deep:Bool):Prop :=
  ∀ (w:World) (cargs:Array Value) (ok:Nat→Prop) (κ:Nat→Option (Option Nat)),XArgs w.heap ok κ args cargs.toList→(∀ o ∈ objs,XOb w ok κ o)→(∀ l o,κ l=some o→∃ x ∈ objs,x.l=l)→(∀ l l' b,κ l=some (some b)→κ l'=some (some b)→l=l') →
    Calls P f cargs w fun e w'=>∃ c B,e=.returned c∧Same w w'∧(∀ b,b < w.heap.size→(∀ l,κ l≠some (some b))→w'.heap[b]?=w.heap[b]?)∧(∀ o ∈ objs,nF w w' κ o) ∧
      RelV w'.heap dead r c B∧(∀ b ∈ B,ok b∨w.heap.size≤b)∧(deep=true→B.Nodup∧∀ b ∈ B,w.heap.size≤b∧cJ w' b)
theorem XArgs.get {h:Array Obj} {ok:Nat→Prop} {κ:Nat→Option (Option Nat)}:∀ {ps:List PV} {cs:List Value},XArgs h ok κ ps cs→ps.length=cs.length∧∀ k,k < ps.length→∃ B,RelV h κ (ps.getD k .any) (cs.getD k undef) B∧∀ b ∈ B,ok b
  | [],[],_=>⟨rfl,fun k hk=>by simp at hk⟩
  | p::ps,c::cs,H=>by
    obtain ⟨h1,h2⟩:=H
    obtain ⟨h3,h4⟩:=XArgs.get h2
    refine ⟨by simp [h3],fun k hk=>?_⟩
    cases k with
    | zero=>simpa using h1
    | succ k=>simpa using h4 k (by simpa using hk)
  | [],_::_,H=>H.elim
  | _::_,[],H=>H.elim
def lA:List XO→List (Nat × Option Ob)
  | []=>[]
  | o::r=>(o.l,some ⟨o.old,true,false⟩)::lA r
theorem gP:∀ {os:List XO} {l:Nat},(lo (lA os) l=none∧∀ o ∈ os,o.l≠l)∨∃ o ∈ os,o.l=l∧lo (lA os) l=some ⟨o.old,true,false⟩
  | [],l=>.inl ⟨rfl,by simp⟩
  | o::r,l=>by
    simp only [lA,aV]
    by_cases h:o.l=l
    · exact .inr ⟨o,by simp,h,by rw [if_pos h]⟩
    · rw [if_neg h]
      rcases gP (os:=r) (l:=l) with ⟨h1,h2⟩ | ⟨o',h1,h2,h3⟩
      · exact .inl ⟨h1,fun x hx=>by rcases List.mem_cons.1 hx with rfl | hx;exact h;exact h2 x hx⟩
      · exact .inr ⟨o',by simp [h1],h2,h3⟩
def xok:List XO→Bool
  | []=>true
  | o::r=>Nat.ble 100000 o.l&&!(gJ (r.map (·.l)) o.l)&&xok r
theorem iL:∀ {os:List XO},xok os=true→(∀ o ∈ os,100000≤o.l)∧∀ o ∈ os,∀ o' ∈ os,o.l=o'.l→o=o'
  | [],_=>⟨by simp,by simp⟩
  | o::r,h=>by
    simp only [xok,Bool.and_eq_true,Bool.not_eq_true'] at h
    obtain ⟨g1,g2⟩:=iL h.2
    have hn:∀ x ∈ r,x.l≠o.l:=by
      intro x hx e
      have:gJ (r.map (·.l)) o.l=true:=(dD _ _).2 (List.mem_map.2 ⟨x,hx,e⟩)
      rw [this] at h;cases h.1.2
    refine ⟨fun x hx=>?_,fun x hx y hy e=>?_⟩
    · rcases List.mem_cons.1 hx with rfl | hx
      · exact Nat.le_of_ble_eq_true h.1.1
      · exact g1 x hx
    · rcases List.mem_cons.1 hx with e1 | e1 <;> rcases List.mem_cons.1 hy with e2 | e2
      · rw [e1,e2]
      · rw [e1] at e;exact absurd e.symm (hn y e2)
      · rw [e2] at e;exact absurd e (hn x e1)
      · exact g2 x e1 y e2 e
def RetX {P:Program} {N:Nat} (Γ:Ctx P N) (rs:Array ResultVar) (E:Env) (r:PV) (deep:Bool) (objs:List XO):Prop :=
  RetIs Γ rs E r deep∧∀ a w,Sim Γ E a w→∃ E',Sim Γ E' a w∧∀ o ∈ objs,∃ dp,lo E'.o o.l=some ⟨o.new,dp,false⟩
def iC {P:Program} {N:Nat} (Γ:Ctx P N) (rs:Array ResultVar) (r:PV) (deep:Bool) (objs:List XO):Exit→Env→Prop
  | .normal,E=>RetX Γ rs E r deep objs
  | .ret,E=>RetX Γ rs E r deep objs
  | _,_=>False
section
variable {P:Program} {N:Nat}
theorem MeetsX.intro {f:FuncId} {fn:Func} {c:Code} {args:List PV} {objs:List XO} {r:PV} {deep:Bool} {rs:Array ResultVar} (hf:P.funcs[f]?=some fn) (hb:fn.body=some c) (hN:fn.ntmps=N) (hrs:fn.results=rs) (hn:Nat.ble args.length N=true)
    (hx:xok objs=true) (hnil:∀ o ∈ objs,o.old=[]→o.new=[]) (hsc:∀ o ∈ objs,dF o.new=true)
    (h:∀ Γ:Ctx P N,(∀ l,Nat.blt l 100000=true→Γ.io l=none)→CodeT Γ c ⟨bH args 0,lA objs⟩ (iC Γ rs r deep objs)):MeetsX P f args objs r deep:=by
  classical
  intro w cargs ok κ ha hob hκ hinj
  obtain ⟨h1,h2⟩:=ha.get
  obtain ⟨hx1,hx2⟩:=iL hx
  have hn:=Nat.le_of_ble_eq_true hn
  let Γ:Ctx P N:={ base:=w.heap.size,ok:=ok,io:=fun l=>match κ l with | some (some b)=>some b | _=>none,w0:=w,mine:=fun _=>False,lent:=fun _=>False }
  have hio:∀ l b,Γ.io l=some b↔κ l=some (some b):=by
    intro l b
    show (match κ l with | some (some b)=>some b | _=>none)=some b↔_
    cases κ l with
    | none=>simp
    | some o=>cases o <;> simp
  have hsz:(cargs++Array.replicate (fn.ntmps - cargs.size) undef).size=N:=by
    have:cargs.size=args.length:=by rw [h1];simp
    simp [this,hN];omega
  have hblt:∀ l b,κ l=some (some b)→b < w.heap.size:=by
    intro l b e
    obtain ⟨o,ho,rfl⟩:=hκ l _ e
    rcases hob o ho with ⟨e',_⟩ | ⟨b',cs,t,e',_,g,_⟩
    · rw [e] at e';cases e'
    · rw [e] at e';cases e'
      rcases Nat.lt_or_ge b w.heap.size with h | h
      · exact h
      · simp [Array.getElem?_eq_none h] at g
  refine calls_of_wp hf hb ?_
  let ow:Nat→Own:=fun b=>if hh:∃ l,κ l=some (some b) then .lab hh.choose else .none
  have how:∀ b l,κ l=some (some b)→ow b=.lab l:=by
    intro b l e
    have hh:∃ l,κ l=some (some b):=⟨l,e⟩
    show (if hh:_ then _ else _)=_
    rw [dif_pos hh,hinj _ _ b hh.choose_spec e]
  have how2:∀ b,ow b≠.none→∃ l,κ l=some (some b):=by
    intro b hb'
    rcases Classical.em (∃ l,κ l=some (some b)) with hh | hh
    · exact hh
    · exfalso;apply hb'
      show (if hh:_ then _ else _)=_
      rw [dif_neg hh]
  have hsim:Sim Γ ⟨bH args 0,lA objs⟩ { tmps:=cargs++Array.replicate (fn.ntmps - cargs.size) undef,defers:=[] } w:=by
    refine ⟨ow,κ,{ size:=hsz,defers:=rfl,kept:=⟨rfl,rfl,rfl,Nat.le_refl _,fun _ _ _ _=>rfl,fun b _ _ cs t h=>⟨cs,h,rfl⟩⟩,slots:=fun k=>?_,objs:=fun l ob hl=>?_,gone:=fun l hl=>?_,own:=fun b hb=>?_,ios:=fun l b hl _=>(hio l b).1 hl,fresh:=fun l b hl hi=>?_ }⟩
    · rw [cI]
      by_cases hk:k < args.length
      · rw [if_pos ⟨Nat.zero_le _,by simpa using hk⟩]
        obtain ⟨B,g1,g2⟩:=h2 k hk
        have hB:∀ b ∈ B,∀ l,ow b≠.lab l:=by
          intro b hb l e
          obtain ⟨l',e'⟩:=how2 b (by rw [e];simp)
          obtain ⟨o,ho,rfl⟩:=hκ l' _ e'
          rcases hob o ho with ⟨e2,_⟩ | ⟨b',cs,t,e2,hnok,_⟩
          · rw [e'] at e2;cases e2
          · rw [e'] at e2;cases e2;exact hnok (g2 b hb)
        refine ⟨B,?_,fun b hb=>⟨RelV.below _ _ _ g1 b hb,.inl (g2 b hb),hB b hb⟩,by simp⟩
        have e:(cargs++Array.replicate (fn.ntmps - cargs.size) undef).getD k undef=cargs.toList.getD k undef:=by
          have hlt:k < cargs.size:=by rw [h1] at hk;simpa using hk
          simp [Array.getD_eq_getD_getElem?,Array.getElem?_append,hlt,List.getD_eq_getElem?_getD]
        rw [e]
        simpa only [Nat.sub_zero] using g1
      · rw [if_neg (by simpa using hk)]
        exact ⟨[],by simp [RelV],by simp,by simp⟩
    · rcases gP (os:=objs) (l:=l) with ⟨g1,_⟩ | ⟨o,ho,rfl,g1⟩
      · simp only [g1] at hl;cases hl
      · simp only [g1] at hl;cases hl
        refine ⟨[],by simp,by simp,?_⟩
        rcases hob o ho with ⟨e1,e2⟩ | ⟨b,cs,t,e1,_,e3,e4⟩
        · exact .inl ⟨e1,e2,rfl⟩
        · exact .inr ⟨b,cs,t,e1,how b _ e1,e3,by simpa using e4⟩
    · cases hk:κ l with
      | none=>rfl
      | some o =>
        obtain ⟨x,hx,rfl⟩:=hκ l o hk
        rcases gP (os:=objs) (l:=x.l) with ⟨_,g2⟩ | ⟨_,_,_,g1⟩
        · exact absurd rfl (g2 x hx)
        · simp only [g1] at hl;cases hl
    · obtain ⟨l,e⟩:=how2 b hb
      exact ⟨hblt l b e,.inr ⟨l,how b l e,(hio l b).2 e⟩⟩
    · rw [(hio l b).2 hl] at hi;cases hi
  have hioN:∀ l,Nat.blt l 100000=true→Γ.io l=none:=by
    intro l hl
    have hl:=(aH _ _).1 hl
    cases hi:Γ.io l with
    | none=>rfl
    | some b =>
      obtain ⟨o,ho,rfl⟩:=hκ l _ ((hio l b).1 hi)
      have:=hx1 o ho;omega
  refine wp_mono (h Γ hioN _ _ hsim) fun e a' w' ⟨E',hs',hq⟩=>?_
  have fin:RetX Γ rs E' r deep objs→a'.defers=[]∧∃ v,(results fn a'.tmps).run P w'=.ok v w'∧∃ c B,Ending.returned v=.returned c∧Same w w'∧(∀ b,b < w.heap.size→(∀ l,κ l≠some (some b))→w'.heap[b]?=w.heap[b]?)∧(∀ o ∈ objs,nF w w' κ o) ∧
      RelV w'.heap dead r c B∧(∀ b ∈ B,ok b∨w.heap.size≤b)∧(deep=true→B.Nodup∧∀ b ∈ B,w.heap.size≤b∧cJ w' b):=by
    rintro ⟨hr,hr2⟩
    obtain ⟨c,B,g1,g2,g3,g4⟩:=hr fn hrs a' w' hs'
    obtain ⟨E2,⟨ow2,β2,hs2⟩,hr2⟩:=hr2 a' w' hs'
    refine ⟨hs2.defers,c,g1,c,B,rfl,⟨hs2.kept.os,hs2.kept.output,hs2.kept.tape,hs2.kept.size⟩,fun b hb hn=>hs2.kept.old b hb (fun l e=>hn l ((hio l b).1 e)) (fun h=>h),fun o ho=>⟨fun e=>?_,fun b e cs t hc=>?_⟩,g2,fun b hb=>(g3 b hb).2.imp id (fun h=>(h.elim id False.elim:Γ.nww b).elim id False.elim),fun hd=>⟨(g4 hd).1,fun b hb=>⟨(((g4 hd).2 b hb).2.elim id False.elim:Γ.nww b).elim id False.elim,((g4 hd).2 b hb).1⟩⟩⟩
    · refine hnil o ho ?_
      rcases hob o ho with ⟨_,e2⟩ | ⟨b,_,_,e2,_⟩
      · exact e2
      · rw [e] at e2;cases e2
    · obtain ⟨dp,hl⟩:=hr2 o ho
      obtain ⟨Bo,_,_,k3⟩:=hs2.objs o.l _ hl
      have hβ:=hs2.ios o.l b ((hio o.l b).2 e) (by rw [hl];rfl)
      rcases k3 with ⟨k4,_⟩ | ⟨b',cs',t',k4,k5,k6,k7⟩
      · rw [hβ] at k4;cases k4
      · rw [hβ] at k4;cases k4
        obtain ⟨cs2,q1,q2⟩:=hs2.kept.ios b (hblt _ _ e) (fun h=>h) cs t hc
        rw [k6] at q1;cases q1
        have:=hY (hsc o ho) k7
        subst this
        exact ⟨cs',k6,q2,by simpa using k7⟩
  cases e with
  | normal=>exact fin hq
  | ret=>exact fin hq
  | exit id=>exact hq.elim
  | goto l=>exact hq.elim
  | panic ch=>exact hq.elim
  | outgrown=>exact hq.elim
end
section
variable {P:Program} {N:Nat} {Γ:Ctx P N} {S:List (Nat × Slot)} {O:List (Nat × Option Ob)} {ow:Nat→Own} {β:Nat→Option (Option Nat)} {F:Env} {a:Act} {w:World}
inductive ArgX (S:List (Nat × Slot)) (O:List (Nat × Option Ob)) (ρ:List (Nat × Nat)):Operand→PV→List Nat→Prop
  | val {x:Operand} {p:PV} {l:List Nat}:ArgV S O x p l→p.labs=[]→ArgX S O ρ x p l
  | io {x:Operand} {p:PV}:evq S x=some (dM ρ p)→ArgX S O ρ x p []
inductive ArgsX (S:List (Nat × Slot)) (O:List (Nat × Option Ob)) (ρ:List (Nat × Nat)):List Operand→List PV→List Nat→Prop
  | nil:ArgsX S O ρ [] [] []
  | cons {x:Operand} {p:PV} {l m:List Nat} {xs:List Operand} {ps:List PV}:ArgX S O ρ x p l→ArgsX S O ρ xs ps m→ArgsX S O ρ (x::xs) (p::ps) (l++m)
inductive ObsX (O:List (Nat × Option Ob)) (ρ:List (Nat × Nat)):List XO→List (Nat × Option Ob)→Prop
  | nil:ObsX O ρ [] []
  | cons {l:Nat} {old new:List PV} {dp:Bool} {os:List XO} {us:List (Nat × Option Ob)}:loq O (rn ρ l)=some ⟨old,dp,false⟩→dF old=true→ObsX O ρ os us→ObsX O ρ (⟨l,old,new⟩::os) ((rn ρ l,some ⟨new,dp,false⟩)::us)
theorem ObsX.get {ρ:List (Nat × Nat)} {os:List XO} {us:List (Nat × Option Ob)} (h:ObsX O ρ os us):∀ o ∈ os,∃ dp,loq O (rn ρ o.l)=some ⟨o.old,dp,false⟩∧dF o.old=true:=by
  induction h with
  | nil=>simp
  | cons h1 h2 _ ih =>
    intro o ho
    rcases List.mem_cons.1 ho with rfl | ho
    · exact ⟨_,h1,h2⟩
    · exact ih o ho
theorem ArgV.rel {x:Operand} {p:PV} {l:List Nat} (hs:SimG Γ ow β F a w) (hx:ArgV S O x p l) (hk1:∀ k ∈ ors x,lk F.s k=lk S k) (hl:∀ m ∈ l,lo F.o m=lo O m):∃ B,RelV w.heap dead p (a.eval x) B∧∀ b ∈ B,Im Γ ow w b∨∃ m ∈ l,ow b=.lab m:=by
  have h1:ArgsV S O [x] [p] (l++[]):=.cons hx .nil
  have:=hG hs h1 (by cases x <;> simpa [iW,ors] using hk1) (by simpa using hl)
  obtain ⟨⟨B,g1,g2⟩,_⟩:=this
  exact ⟨B,g1,fun b hb=>by simpa using g2 b hb⟩
variable {d:Nat} {ty:TypeId} {pos:String} {af:Array Edge} {g:Option (Nat × Bool)}
end
end Go.Ev
/- The engine, part X: results that are rows of the caller's own. -/
namespace Go.Ev
open Go.RowKit (Below)
section
variable {P:Program} {N:Nat} {Γ:Ctx P N} {S:List (Nat × Slot)} {O:List (Nat × Option Ob)} {ow:Nat→Own} {β:Nat→Option (Option Nat)} {F:Env} {a:Act} {w:World}
structure Rows (us:List (Nat × Option Ob)) (h:Array Obj) (blk:Nat→Option (Option Nat)) (nest:Nat→List Nat) (B:List Nat):Prop where
  ob:∀ l ∈ us.map (·.1),∃ cells,lo us l=some ⟨cells,true,false⟩∧((blk l=some none∧cells=[]∧nest l=[])∨∃ b cs t,blk l=some (some b)∧h[b]?=some (.cells cs t (0,0))∧RelL h true dead cells cs 0 (nest l))
  nd:∀ l ∈ us.map (·.1),(nest l).Nodup∧∀ c ∈ nest l,c ∈ B
  inB:∀ l ∈ us.map (·.1),∀ b,blk l=some (some b)→b ∈ B
  bb:∀ l ∈ us.map (·.1),∀ l' ∈ us.map (·.1),∀ b,blk l=some (some b)→blk l'=some (some b)→l=l'
  bn:∀ l ∈ us.map (·.1),∀ l' ∈ us.map (·.1),∀ b,blk l=some (some b)→b ∉ nest l'
  nn:∀ l ∈ us.map (·.1),∀ l' ∈ us.map (·.1),∀ c,c ∈ nest l→c ∈ nest l'→l=l'
variable {d:Nat} {ty:TypeId} {pos:String} {af:Array Edge} {g:Option (Nat × Bool)}
theorem qG {x:Operand} {vs:List PV} {i:Nat} {p:PV} (hx:evq S x=some (.tup vs)) (hp:vs[i]?=some p) (hd:Nat.blt d N=true) :
    Local Γ ⟨some d,.extract x i,ty,pos,af,g⟩ ⟨S,O⟩ ⟨[(d,⟨p,false⟩)],[]⟩ (ors x) [] []:=by
  intro F hs _ _
  refine aP fun a w ⟨ow,β,hsim⟩=>?_
  obtain ⟨B,h1,h2⟩:=bJ hsim hx hs
  simp only [RelV] at h1
  obtain ⟨cs,e1,e2,e3⟩:=h1
  obtain ⟨c,B1,g1,_,g3,g4⟩:=e3.get _ _ _ _ i p hp
  rw [Nat.zero_add] at g1
  exact ⟨c,w,by simp [execOp,e1,Instr.extract,g1],ow,β,hsim.put ((aH _ _).1 hd) g3 (fun b hb=>h2 b (g4 b hb))⟩
theorem Res1.refW {t l s n:Nat} {cells:List PV} {dp dp0:Bool} (h:lkq S t=some ⟨.ref l s 0 n,dp0⟩) (ho:loq O l=some ⟨cells,dp,false⟩) (hio:Γ.io l=none):Res1 Γ ⟨S,O⟩ (.tmp t) (.rw s n cells) (if dp then .obj l else .none):=by
  intro ow β a w hs
  obtain ⟨B,h1,_⟩:=hs.slots t
  rw [cK h] at h1
  simp only [RelV] at h1
  obtain ⟨Bo,o1,o2,hob⟩:=hs.objs l ⟨cells,dp,false⟩ (by rw [← cA];exact ho)
  rcases hob with ⟨p1,p2,p3⟩ | ⟨b,cs,u,p1,p2,p3,p4⟩
  · obtain ⟨rfl,_,e⟩:=h1.2.1 p1
    simp only at p2;subst p2
    exact ⟨_,[],rfl,by simp only [RelV];exact .inl ⟨trivial,trivial,trivial,e⟩,by simp,by simp⟩
  · obtain ⟨cap,cs',u',q1,q0,q3,q4⟩:=h1.2.2 b p1
    rw [p3] at q0;cases q0
    simp only [Nat.zero_mul,Nat.zero_add] at q1 q3
    refine ⟨_,b::Bo,rfl,by simp only [RelV];exact .inr ⟨b,cap,cs,u,Bo,⟨q1,q4,q3⟩,p3,by simpa using p4,rfl⟩,fun c hc=>?_,fun hne=>?_⟩
    · rcases List.mem_cons.1 hc with rfl | hc
      · exact ⟨hs.block_lt p1,.inr (.inl (hs.fresh l _ p1 hio))⟩
      · exact ⟨(o1 c hc).1,(o1 c hc).2.1⟩
    · cases dp with
      | false=>simp at hne
      | true =>
        obtain ⟨n1,n2⟩:=o2 rfl
        refine ⟨List.nodup_cons.2 ⟨fun hb=>(o1 b hb).2.2 l p2,n1⟩,fun c hc=>?_⟩
        rcases List.mem_cons.1 hc with rfl | hc
        · exact ⟨⟨_,_,p3⟩,.inl (hs.fresh l _ p1 hio),.inr ⟨l,p2,rfl⟩⟩
        · have e:=n2 c hc
          refine ⟨e.2,?_,.inl (by simpa [ResO.own] using e.1)⟩
          rcases (hs.own c (by rw [e.1];simp)).2 with g | ⟨l',g,_⟩
          · exact g
          · rw [e.1] at g;cases g
theorem RetIs.rW {t l s n:Nat} {cells:List PV} {dp dp0 deep:Bool} (h:lkq S t=some ⟨.ref l s 0 n,dp0⟩) (ho:loq O l=some ⟨cells,dp,false⟩) (hd:dp=true) (hio:Γ.io l=none):RetIs Γ #[.tmp t] ⟨S,O⟩ (.rw s n cells) deep:=by
  subst hd;exact RetIs.one (Res1.refW h ho hio) (fun _=>by simp)
theorem Res1.nilW {t s:Nat} {dp:Bool} (h:lkq S t=some ⟨.sc (.slice none 0 0),dp⟩):Res1 Γ ⟨S,O⟩ (.tmp t) (.rw s 0 []) (.slot t):=by
  intro ow β a w hs
  obtain ⟨B,h1,_,_⟩:=hs.slots t
  rw [cK h] at h1
  simp only [RelV] at h1
  exact ⟨_,[],rfl,by simp only [RelV];exact .inl ⟨trivial,trivial,trivial,h1.1⟩,by simp,by simp⟩
theorem RetX.mk {rs:Array ResultVar} {r:PV} {deep:Bool} {objs:List XO} {E:Env} (h:RetIs Γ rs E r deep) (ho:∀ o ∈ objs,∃ dp,lo E.o o.l=some ⟨o.new,dp,false⟩):RetX Γ rs E r deep objs:=⟨h,fun _ _ hs=>⟨E,hs,ho⟩⟩
theorem RetX.weak {E E0:Env} {rs:Array ResultVar} {r:PV} {deep:Bool} {objs:List XO} (he:Ent Γ E E0) (h:RetX Γ rs E0 r deep objs):RetX Γ rs E r deep objs:=⟨RetIs.weak he h.1,fun a w hs=>h.2 a w (he a w hs)⟩
end
end Go.Ev
namespace Go.Ev
section
variable {P:Program} {N:Nat} {Γ:Ctx P N} {E:Env} {Q:Exit→Env→Prop}
def XRetX (Γ:Ctx P N) (rs:Array ResultVar) (r:PV) (deep:Bool) (objs:List XO) (e:Exit) (E:Env):Prop:=e=.ret∧RetX Γ rs E r deep objs
theorem XRetX.mk {rs:Array ResultVar} {r:PV} {deep:Bool} {objs:List XO} (h:RetX Γ rs E r deep objs):XRetX Γ rs r deep objs .ret E:=⟨rfl,h⟩
theorem XRetX.out {rs:Array ResultVar} {r:PV} {deep:Bool} {objs:List XO} {e:Exit} (h:XRetX Γ rs r deep objs e E):e=.ret∧RetX Γ rs E r deep objs:=h
variable {S:List (Nat × Slot)} {O:List (Nat × Option Ob)} {d:Nat} {ty:TypeId} {pos:String} {af:Array Edge} {g:Option (Nat × Bool)}
end
end Go.Ev
/- The engine, part Y: rows within rows: an own row taken out of another and put back; rows with rows within, handed over. -/
namespace Go.Ev
open Go.RowKit (Below)
section
variable {P:Program} {N:Nat} {Γ:Ctx P N} {S:List (Nat × Slot)} {O:List (Nat × Option Ob)} {ow:Nat→Own} {β:Nat→Option (Option Nat)} {F:Env} {a:Act} {w:World}
theorem RelL.at {h:Array Obj} {β:Nat→Option (Option Nat)} {cells:List PV} {cs:Array Value} {O:List Nat} {c:Nat} {p:PV} (H:RelL h true β cells cs 0 O) (hc:cells[c]?=some p) :
    ∃ v O1 Oc O2,cs[c]?=some v∧v.oneCell'=true∧RelV h β p v Oc∧RelL h true β (cells.take c) cs 0 O1∧RelL h true β (cells.drop (c+1)) cs (c+1) O2∧O=O1++(Oc++O2):=by
  have hlt:c < cells.length:=(List.getElem?_eq_some_iff.1 hc).1
  have e:cells=cells.take c++p::cells.drop (c+1):=by
    rw [← (List.getElem?_eq_some_iff.1 hc).2,List.getElem_cons_drop,List.take_append_drop]
  rw [e] at H
  obtain ⟨O1,O3,h1,h2,rfl⟩:=(RelL.append _ _ _ _ _).1 H
  simp only [RelL] at h2
  obtain ⟨v,Oc,O2,g1,g2,g3,rfl⟩:=h2
  have hl:(cells.take c).length=c:=by rw [List.length_take];omega
  rw [hl,Nat.zero_add] at g1 g3
  exact ⟨v,O1,Oc,O2,g1.1,by simpa using g1.2,g2,h1,g3,rfl⟩
theorem RelL.put {h:Array Obj} {β:Nat→Option (Option Nat)} {cells:List PV} {cs:Array Value} {c:Nat} {p q:PV} {v:Value} {O1 Oc O2:List Nat} (hc:cells[c]?=some p) (hv:cs[c]?=some v) (h1c:v.oneCell'=true) (hq:RelV h β q v Oc)
    (h1:RelL h true β (cells.take c) cs 0 O1) (h2:RelL h true β (cells.drop (c+1)) cs (c+1) O2):RelL h true β (cells.set c q) cs 0 (O1++(Oc++O2)):=by
  have hlt:c < cells.length:=(List.getElem?_eq_some_iff.1 hc).1
  have hl:(cells.take c).length=c:=by rw [List.length_take];omega
  rw [List.set_eq_take_append_cons_drop,if_pos hlt]
  refine (RelL.append _ _ _ _ _).2 ⟨O1,Oc++O2,h1,?_,rfl⟩
  simp only [RelL]
  rw [hl,Nat.zero_add]
  exact ⟨v,Oc,O2,⟨hv,fun _=>h1c⟩,hq,h2,rfl⟩
end
end Go.Ev
/- The engine, part Z: an own row put back into another; calls that write rows with rows within. -/
namespace Go.Ev
open Go.RowKit (Below)
section
variable {P:Program} {N:Nat} {Γ:Ctx P N} {S:List (Nat × Slot)} {O:List (Nat × Option Ob)} {ow:Nat→Own} {β:Nat→Option (Option Nat)} {F:Env} {a:Act} {w:World}
end
end Go.Ev
/- The engine, part W: calls that write a row with rows within. -/
namespace Go.Ev
open Go.RowKit (Below)
def MeetsN (P:Program) (f:FuncId) (args:List PV) (old new:List PV) (r:PV):Prop :=
  ∀ (w:World) (cargs:Array Value) (ok:Nat→Prop) (κ0:Option Nat) (H:List Nat),XArgs w.heap ok (fun l=>if l=100000 then some κ0 else none) args cargs.toList →
    ((κ0=none∧old=[]∧H=[])∨∃ b cs t,κ0=some b∧¬ok b∧b ∉ H∧w.heap[b]?=some (.cells cs t (0,0))∧RelL w.heap true dead old cs 0 H)→H.Nodup→(∀ c ∈ H,¬ok c∧cJ w c) →
    Calls P f cargs w fun e w'=>∃ c H',e=.returned c∧Same w w'∧(∀ b,b < w.heap.size→κ0≠some b→b ∉ H→w'.heap[b]?=w.heap[b]?)∧RelV w'.heap dead r c [] ∧
      (κ0=none→new=[]∧H'=[])∧(∀ b cs t,κ0=some b→w.heap[b]?=some (.cells cs t (0,0))→b ∉ H'∧∃ cs',w'.heap[b]?=some (.cells cs' t (0,0))∧cs'.size=cs.size∧RelL w'.heap true dead new cs' 0 H') ∧
      H'.Nodup∧∀ c ∈ H',cJ w' c∧(w.heap.size≤c∨c ∈ H)
section
variable {P:Program} {N:Nat}
def RetN (Γ:Ctx P N) (rs:Array ResultVar) (E:Env) (r:PV) (new:List PV):Prop :=
  RetIs Γ rs E r true∧∀ a w,Sim Γ E a w→∃ E',Sim Γ E' a w∧lo E'.o 100000=some ⟨new,true,false⟩
def lU (Γ:Ctx P N) (rs:Array ResultVar) (r:PV) (new:List PV):Exit→Env→Prop
  | .normal,E=>RetN Γ rs E r new
  | .ret,E=>RetN Γ rs E r new
  | _,_=>False
def XRetN (Γ:Ctx P N) (rs:Array ResultVar) (r:PV) (new:List PV) (e:Exit) (E:Env):Prop:=e=.ret∧RetN Γ rs E r new
section
variable {Γ:Ctx P N} {E:Env}
theorem XRetN.mk {rs:Array ResultVar} {r:PV} {new:List PV} (h:RetN Γ rs E r new):XRetN Γ rs r new .ret E:=⟨rfl,h⟩
theorem XRetN.out {rs:Array ResultVar} {r:PV} {new:List PV} {e:Exit} (h:XRetN Γ rs r new e E):e=.ret∧RetN Γ rs E r new:=h
theorem RetN.mk {rs:Array ResultVar} {r:PV} {new:List PV} (h:RetIs Γ rs E r true) (ho:lo E.o 100000=some ⟨new,true,false⟩):RetN Γ rs E r new:=⟨h,fun _ _ hs=>⟨E,hs,ho⟩⟩
theorem RetN.weak {E0:Env} {rs:Array ResultVar} {r:PV} {new:List PV} (he:Ent Γ E E0) (h:RetN Γ rs E0 r new):RetN Γ rs E r new:=⟨RetIs.weak he h.1,fun a w hs=>h.2 a w (he a w hs)⟩
end
theorem MeetsN.intro {f:FuncId} {fn:Func} {c:Code} {args old new:List PV} {r:PV} {rs:Array ResultVar} (hf:P.funcs[f]?=some fn) (hb:fn.body=some c) (hN:fn.ntmps=N) (hrs:fn.results=rs) (hn:Nat.ble args.length N=true)
    (hnil:old=[]→new=[]) (hr:cW r=true)
    (h:∀ Γ:Ctx P N,(∀ l,Nat.blt l 100000=true→Γ.io l=none)→(∀ b,¬Γ.lent b)→CodeT Γ c ⟨bH args 0,[(100000,some ⟨old,true,false⟩)]⟩ (lU Γ rs r new)):MeetsN P f args old new r:=by
  classical
  intro w cargs ok κ0 H ha hob hnd hH
  obtain ⟨h1,h2⟩:=ha.get
  have hn:=Nat.le_of_ble_eq_true hn
  let Γ:Ctx P N:={ base:=w.heap.size,ok:=ok,io:=fun l=>if l=100000 then κ0 else none,w0:=w,mine:=fun b=>b ∈ H,lent:=fun _=>False }
  have hsz:(cargs++Array.replicate (fn.ntmps - cargs.size) undef).size=N:=by
    have:cargs.size=args.length:=by rw [h1];simp
    simp [this,hN];omega
  have hlt:∀ b,(κ0=some b∨b ∈ H)→b < w.heap.size:=by
    rintro b (e | e)
    · rcases hob with ⟨e',_⟩ | ⟨b',cs,t,e',_,_,g,_⟩
      · rw [e] at e';cases e'
      · rw [e] at e';cases e'
        rcases Nat.lt_or_ge b w.heap.size with h | h
        · exact h
        · simp [Array.getElem?_eq_none h] at g
    · obtain ⟨_,cs,t,g⟩:=hH b e
      rcases Nat.lt_or_ge b w.heap.size with h | h
      · exact h
      · simp [Array.getElem?_eq_none h] at g
  have hκH:∀ b,κ0=some b→b ∉ H:=by
    intro b e
    rcases hob with ⟨e',_⟩ | ⟨b',cs,t,e',_,g,_⟩
    · rw [e] at e';cases e'
    · rw [e] at e';cases e';exact g
  have hκok:∀ b,κ0=some b→¬ok b:=by
    intro b e
    rcases hob with ⟨e',_⟩ | ⟨b',cs,t,e',g,_⟩
    · rw [e] at e';cases e'
    · rw [e] at e';cases e';exact g
  refine calls_of_wp hf hb ?_
  let ow:Nat→Own:=fun b=>if κ0=some b then .lab 100000 else if b ∈ H then .obj 100000 else .none
  let β:Nat→Option (Option Nat):=fun l=>if l=100000 then some κ0 else none
  have how1:∀ b,κ0=some b→ow b=.lab 100000:=fun b e=>by show (if _ then _ else _)=_;rw [if_pos e]
  have how2:∀ b,b ∈ H→ow b=.obj 100000:=fun b e=>by
    show (if _ then _ else if _ then _ else _)=_
    rw [if_neg (fun e'=>hκH b e' e),if_pos e]
  have how3:∀ b l,ow b=.lab l→κ0=some b∧l=100000:=by
    intro b l e
    have e:(if κ0=some b then Own.lab 100000 else if b ∈ H then .obj 100000 else .none)=.lab l:=e
    split at e
    · rename_i h;injection e with e;exact ⟨h,e.symm⟩
    · split at e <;> cases e
  have hsim:Sim Γ ⟨bH args 0,[(100000,some ⟨old,true,false⟩)]⟩ { tmps:=cargs++Array.replicate (fn.ntmps - cargs.size) undef,defers:=[] } w:=by
    refine ⟨ow,β,{ size:=hsz,defers:=rfl,kept:=⟨rfl,rfl,rfl,Nat.le_refl _,fun _ _ _ _=>rfl,fun b _ _ cs t h=>⟨cs,h,rfl⟩⟩,slots:=fun k=>?_,objs:=fun l ob hl=>?_,gone:=fun l hl=>?_,own:=fun b hb=>?_,ios:=fun l b hl _=>?_,fresh:=fun l b hl hi=>?_ }⟩
    · rw [cI]
      by_cases hk:k < args.length
      · rw [if_pos ⟨Nat.zero_le _,by simpa using hk⟩]
        obtain ⟨B,g1,g2⟩:=h2 k hk
        refine ⟨B,?_,fun b hb=>⟨RelV.below _ _ _ g1 b hb,.inl (g2 b hb),fun l e=>hκok b (how3 b l e).1 (g2 b hb)⟩,by simp⟩
        have e:(cargs++Array.replicate (fn.ntmps - cargs.size) undef).getD k undef=cargs.toList.getD k undef:=by
          have hlt:k < cargs.size:=by rw [h1] at hk;simpa using hk
          simp [Array.getD_eq_getD_getElem?,Array.getElem?_append,hlt,List.getD_eq_getElem?_getD]
        rw [e]
        simpa only [Nat.sub_zero] using g1
      · rw [if_neg (by simpa using hk)]
        exact ⟨[],by simp [RelV],by simp,by simp⟩
    · simp only [aV] at hl
      by_cases e:100000=l
      · subst e
        rw [if_pos rfl] at hl;cases hl
        refine ⟨H,fun b hb=>⟨hlt b (.inr hb),.inr (.inl (.inr hb)),fun l=>by rw [how2 b hb];simp⟩,fun _=>⟨hnd,fun b hb=>⟨how2 b hb,(hH b hb).2⟩⟩,?_⟩
        rcases hob with ⟨e1,e2,e3⟩ | ⟨b,cs,t,e1,_,_,e3,e4⟩
        · exact .inl ⟨by show (if _ then _ else _)=_;rw [if_pos rfl,e1],e2,e3⟩
        · exact .inr ⟨b,cs,t,by show (if _ then _ else _)=_;rw [if_pos rfl,e1],how1 b e1,e3,by simpa using e4⟩
      · rw [if_neg e] at hl;simp [lo] at hl
    · simp only [aV] at hl
      by_cases e:100000=l
      · rw [if_pos e] at hl;cases hl
      · show (if _ then _ else _)=_;rw [if_neg (fun e'=>e e'.symm)]
    · by_cases e:κ0=some b
      · exact ⟨hlt b (.inl e),.inr ⟨100000,how1 b e,by show (if (100000:Nat)=100000 then κ0 else none)=some b;rw [if_pos rfl,e]⟩⟩
      · by_cases e2:b ∈ H
        · exact ⟨hlt b (.inr e2),.inl (.inl (.inr e2))⟩
        · exfalso;apply hb;show (if _ then _ else if _ then _ else _)=_;rw [if_neg e,if_neg e2]
    · have hl:(if l=100000 then κ0 else none)=some b:=hl
      split at hl
      · rename_i e;show (if _ then _ else _)=_;rw [if_pos e,hl]
      · cases hl
    · have hl:(if l=100000 then some κ0 else none)=some (some b):=hl
      have hi:(if l=100000 then κ0 else none)=none:=hi
      split at hl
      · rename_i e;rw [if_pos e] at hi;rw [hi] at hl;cases hl
      · cases hl
  have hioN:∀ l,Nat.blt l 100000=true→Γ.io l=none:=by
    intro l hl
    have hl:=(aH _ _).1 hl
    show (if l=100000 then κ0 else none)=none
    rw [if_neg (by omega)]
  refine wp_mono (h Γ hioN (fun _ h=>h) _ _ hsim) fun e a' w' ⟨E',hs',hq⟩=>?_
  have fin:RetN Γ rs E' r new→a'.defers=[]∧∃ v,(results fn a'.tmps).run P w'=.ok v w'∧∃ c H',Ending.returned v=.returned c∧Same w w'∧(∀ b,b < w.heap.size→κ0≠some b→b ∉ H→w'.heap[b]?=w.heap[b]?)∧RelV w'.heap dead r c [] ∧
      (κ0=none→new=[]∧H'=[])∧(∀ b cs t,κ0=some b→w.heap[b]?=some (.cells cs t (0,0))→b ∉ H'∧∃ cs',w'.heap[b]?=some (.cells cs' t (0,0))∧cs'.size=cs.size∧RelL w'.heap true dead new cs' 0 H') ∧
      H'.Nodup∧∀ c ∈ H',cJ w' c∧(w.heap.size≤c∨c ∈ H):=by
    rintro ⟨hr1,hr2⟩
    obtain ⟨c,B,g1,g2,_,_⟩:=hr1 fn hrs a' w' hs'
    have:=gI _ hr g2
    subst this
    obtain ⟨E2,⟨ow2,β2,hs2⟩,hl⟩:=hr2 a' w' hs'
    obtain ⟨Bo,k1,k2,k3⟩:=hs2.objs 100000 _ hl
    obtain ⟨k2n,k2⟩:=k2 rfl
    refine ⟨hs2.defers,c,g1,c,Bo,rfl,⟨hs2.kept.os,hs2.kept.output,hs2.kept.tape,hs2.kept.size⟩,fun b hb hn1 hn2=>hs2.kept.old b hb (fun l e=>?_) hn2,g2,fun e=>?_,fun b cs t e hc=>?_,k2n,fun c hc=>⟨(k2 c hc).2,?_⟩⟩
    · have e:(if l=100000 then κ0 else none)=some b:=e
      split at e
      · exact hn1 e
      · cases e
    · have en:new=[]:=hnil (by
        rcases hob with ⟨_,e2,_⟩ | ⟨b,_,_,e2,_⟩
        · exact e2
        · rw [e] at e2;cases e2)
      refine ⟨en,?_⟩
      rcases k3 with ⟨_,_,k6⟩ | ⟨_,_,_,_,_,_,k7⟩
      · exact k6
      · subst en;simpa [RelL] using k7
    · have hβ:=hs2.ios 100000 b (by show (if (100000:Nat)=100000 then κ0 else none)=some b;rw [if_pos rfl,e]) (by rw [hl];rfl)
      rcases k3 with ⟨k4,_⟩ | ⟨b',cs',t',k4,k5,k6,k7⟩
      · rw [hβ] at k4;cases k4
      · rw [hβ] at k4;cases k4
        obtain ⟨cs2,q1,q2⟩:=hs2.kept.ios b (hlt b (.inl e)) (hκH b e) cs t hc
        rw [k6] at q1;cases q1
        exact ⟨fun hb=>(k1 b hb).2.2 _ k5,cs',k6,q2,by simpa using k7⟩
    · have e:=(k2 c hc).1
      rcases (hs2.own c (by rw [e];simp)).2 with g | ⟨m,g,_⟩
      · exact (g.elim id False.elim:Γ.nww c)
      · rw [e] at g;cases g
  cases e with
  | normal=>exact fin hq
  | ret=>exact fin hq
  | exit id=>exact hq.elim
  | goto l=>exact hq.elim
  | panic ch=>exact hq.elim
  | outgrown=>exact hq.elim
end
section
variable {P:Program} {N:Nat} {Γ:Ctx P N} {S:List (Nat × Slot)} {O:List (Nat × Option Ob)} {ow:Nat→Own} {β:Nat→Option (Option Nat)} {F:Env} {a:Act} {w:World}
variable {d:Nat} {ty:TypeId} {pos:String} {af:Array Edge} {g:Option (Nat × Bool)}
end
end Go.Ev
/- The engine, part AA: parameters that may be read again; results with rows within. -/
namespace Go.Ev
open Go.RowKit (Below)
section
variable {P:Program} {N:Nat} {Γ:Ctx P N} {S:List (Nat × Slot)} {O:List (Nat × Option Ob)} {ow:Nat→Own} {β:Nat→Option (Option Nat)} {F:Env} {a:Act} {w:World}
def rG (Γ:Ctx P N) (c:Value) (p:PV):Prop:=p.labs=[]∧∃ B,RelV Γ.w0.heap dead p c B∧∀ b ∈ B,Γ.ok b∧b < Γ.base∧(¬Γ.mine b∧¬Γ.lent b)∧∀ l,Γ.io l≠some b
end
end Go.Ev
/- The engine, part BB: results with rows within get labels. -/
namespace Go.Ev
open Go.RowKit (Below)
section
variable {P:Program} {N:Nat} {Γ:Ctx P N} {S:List (Nat × Slot)} {O:List (Nat × Option Ob)} {ow:Nat→Own} {β:Nat→Option (Option Nat)} {F:Env} {a:Act} {w:World}
theorem Rows.nil {h:Array Obj} {blk:Nat→Option (Option Nat)} {nest:Nat→List Nat} {B:List Nat}:Rows [] h blk nest B:=⟨by simp,by simp,by simp,by simp,by simp,by simp⟩
theorem Rows.append {h:Array Obj} {us vs:List (Nat × Option Ob)} {blk blk':Nat→Option (Option Nat)} {nest nest':Nat→List Nat} {B B':List Nat} (h1:Rows us h blk nest B) (h2:Rows vs h blk' nest' B') (hd:∀ l ∈ us.map (·.1),l ∉ vs.map (·.1)) (hB:∀ b ∈ B,b ∉ B') :
    ∃ b2 n2,(∀ l ∈ us.map (·.1),b2 l=blk l)∧(∀ l ∈ vs.map (·.1),b2 l=blk' l)∧Rows (us++vs) h b2 n2 (B++B'):=by
  classical
  let b2:Nat→Option (Option Nat):=fun l=>if l ∈ us.map (·.1) then blk l else blk' l
  let n2:Nat→List Nat:=fun l=>if l ∈ us.map (·.1) then nest l else nest' l
  have eb1:∀ l ∈ us.map (·.1),b2 l=blk l:=fun l hl=>by show (if _ then _ else _)=_;rw [if_pos hl]
  have eb2:∀ l ∈ vs.map (·.1),b2 l=blk' l:=fun l hl=>by show (if _ then _ else _)=_;rw [if_neg (fun e=>hd l e hl)]
  have en1:∀ l ∈ us.map (·.1),n2 l=nest l:=fun l hl=>by show (if _ then _ else _)=_;rw [if_pos hl]
  have en2:∀ l ∈ vs.map (·.1),n2 l=nest' l:=fun l hl=>by show (if _ then _ else _)=_;rw [if_neg (fun e=>hd l e hl)]
  have hm:∀ l,l ∈ (us++vs).map (·.1)→l ∈ us.map (·.1)∨l ∈ vs.map (·.1):=fun l hl=>by rw [List.map_append] at hl;exact List.mem_append.1 hl
  refine ⟨b2,n2,eb1,eb2,⟨fun l hl=>?_,fun l hl=>?_,fun l hl b hb=>?_,fun l hl l' hl' b hb hb'=>?_,fun l hl l' hl' b hb hb'=>?_,fun l hl l' hl' c hc hc'=>?_⟩⟩
  · rcases hm l hl with hl | hl
    · obtain ⟨cells,g1,g2⟩:=h1.ob l hl
      exact ⟨cells,by rw [bC _ _ _ hl];exact g1,by rw [eb1 l hl,en1 l hl];exact g2⟩
    · obtain ⟨cells,g1,g2⟩:=h2.ob l hl
      exact ⟨cells,by rw [bM _ _ _ (fun e=>hd l e hl)];exact g1,by rw [eb2 l hl,en2 l hl];exact g2⟩
  · rcases hm l hl with hl | hl
    · rw [en1 l hl];exact ⟨(h1.nd l hl).1,fun c hc=>List.mem_append_left _ ((h1.nd l hl).2 c hc)⟩
    · rw [en2 l hl];exact ⟨(h2.nd l hl).1,fun c hc=>List.mem_append_right _ ((h2.nd l hl).2 c hc)⟩
  · rcases hm l hl with hl | hl
    · rw [eb1 l hl] at hb;exact List.mem_append_left _ (h1.inB l hl b hb)
    · rw [eb2 l hl] at hb;exact List.mem_append_right _ (h2.inB l hl b hb)
  · rcases hm l hl with hl | hl <;> rcases hm l' hl' with hl' | hl'
    · rw [eb1 l hl] at hb;rw [eb1 l' hl'] at hb';exact h1.bb l hl l' hl' b hb hb'
    · rw [eb1 l hl] at hb;rw [eb2 l' hl'] at hb';exact absurd (h2.inB l' hl' b hb') (hB b (h1.inB l hl b hb))
    · rw [eb2 l hl] at hb;rw [eb1 l' hl'] at hb';exact absurd (h2.inB l hl b hb) (hB b (h1.inB l' hl' b hb'))
    · rw [eb2 l hl] at hb;rw [eb2 l' hl'] at hb';exact h2.bb l hl l' hl' b hb hb'
  · rcases hm l hl with hl | hl <;> rcases hm l' hl' with hl' | hl'
    · rw [eb1 l hl] at hb;rw [en1 l' hl'] at hb';exact h1.bn l hl l' hl' b hb hb'
    · rw [eb1 l hl] at hb;rw [en2 l' hl'] at hb';exact hB b (h1.inB l hl b hb) ((h2.nd l' hl').2 b hb')
    · rw [eb2 l hl] at hb;rw [en1 l' hl'] at hb';exact hB b ((h1.nd l' hl').2 b hb') (h2.inB l hl b hb)
    · rw [eb2 l hl] at hb;rw [en2 l' hl'] at hb';exact h2.bn l hl l' hl' b hb hb'
  · rcases hm l hl with hl | hl <;> rcases hm l' hl' with hl' | hl'
    · rw [en1 l hl] at hc;rw [en1 l' hl'] at hc';exact h1.nn l hl l' hl' c hc hc'
    · rw [en1 l hl] at hc;rw [en2 l' hl'] at hc';exact absurd ((h2.nd l' hl').2 c hc') (hB c ((h1.nd l hl).2 c hc))
    · rw [en2 l hl] at hc;rw [en1 l' hl'] at hc';exact absurd ((h2.nd l hl).2 c hc) (hB c ((h1.nd l' hl').2 c hc'))
    · rw [en2 l hl] at hc;rw [en2 l' hl'] at hc';exact h2.nn l hl l' hl' c hc hc'
variable {d:Nat} {ty:TypeId} {pos:String} {af:Array Edge} {g:Option (Nat × Bool)}
end
end Go.Ev
/- The engine, part CC: values put together from others, values softened. -/
namespace Go.Ev
open Go.RowKit (Below)
section
variable {P:Program} {N:Nat} {Γ:Ctx P N} {S:List (Nat × Slot)} {O:List (Nat × Option Ob)} {ow:Nat→Own} {β:Nat→Option (Option Nat)} {F:Env} {a:Act} {w:World}
variable {d:Nat} {ty:TypeId} {pos:String} {af:Array Edge} {g:Option (Nat × Bool)}
end
end Go.Ev
/- The engine, part DD: struct literals. -/
namespace Go.Ev
open Go.RowKit (Below)
class PlT (P:Program) (t:Nat) (pl:outParam (List (Nat × Nat))):Prop where
  ok:∃ fs,P.underlying t=some (.struct fs)∧fs.toList.mapM (fun f=>(P.info? f.type).map fun i=>(f.offset,i.size))=some pl
theorem PlT.of {P:Program} {t:Nat} {pl:List (Nat × Nat)} (h:(match P.underlying t with | some (.struct fs)=>fs.toList.mapM (fun f=>(P.info? f.type).map fun i=>(f.offset,i.size)) | _=>none)=some pl):PlT P t pl:=by
  split at h
  · rename_i fs hu;exact ⟨fs,hu,h⟩
  · cases h
inductive BuildV (S:List (Nat × Slot)) (pl:List (Nat × Nat)) (dp:Bool):List (Nat × Operand)→List PV→List PV→List Nat→Prop
  | nil {cells:List PV}:BuildV S pl dp [] cells cells []
  | sc {i off n:Nat} {x:Operand} {p:PV} {r:List (Nat × Operand)} {cells cells':List PV} {ks:List Nat}:evq S x=some p→cW p=true→p.labs=[]→stB [] false p=true→pl[i]?=some (off,n)→Nat.beq (aJ p).length n=true→Nat.ble (off+n) cells.length=true →
      BuildV S pl dp r (cells.take off++aJ p++cells.drop (off+n)) cells' ks→BuildV S pl dp ((i,x)::r) cells cells' ks
  | tk {i off n k:Nat} {p:PV} {r:List (Nat × Operand)} {cells cells':List PV} {ks:List Nat}:lkq S k=some ⟨p,true⟩→p.labs=[]→stB [] false p=true→pl[i]?=some (off,n)→Nat.beq (aJ p).length n=true→Nat.ble (off+n) cells.length=true→gJ ks k=false →
      BuildV S pl dp r (cells.take off++aJ p++cells.drop (off+n)) cells' ks→BuildV S pl dp ((i,.tmp k)::r) cells cells' (k::ks)
  | sh {i off n:Nat} {x:Operand} {p:PV} {r:List (Nat × Operand)} {cells cells':List PV} {ks:List Nat}:dp=false→evq S x=some p→p.labs=[]→stB [] false p=true→pl[i]?=some (off,n)→Nat.beq (aJ p).length n=true→Nat.ble (off+n) cells.length=true →
      BuildV S pl dp r (cells.take off++aJ p++cells.drop (off+n)) cells' ks→BuildV S pl dp ((i,x)::r) cells cells' ks
section
variable {P:Program} {N:Nat} {Γ:Ctx P N} {S:List (Nat × Slot)} {O:List (Nat × Option Ob)} {ow:Nat→Own} {β:Nat→Option (Option Nat)} {F:Env} {a:Act} {w:World}
variable {d:Nat} {ty:TypeId} {pos:String} {af:Array Edge} {g:Option (Nat × Bool)}
end
end Go.Ev
/- The engine, part EE: softening, more. -/
namespace Go.Ev
open Go.RowKit (Below)
theorem Soft.nilW {s:Nat}:Soft (.sc (.slice none 0 0)) (.rw s 0 []):=by
  intro h β c B H
  simp only [RelV] at H ⊢
  exact .inl ⟨trivial,trivial,H.2,H.1⟩
section
variable {P:Program} {N:Nat} {Γ:Ctx P N} {S:List (Nat × Slot)} {O:List (Nat × Option Ob)} {ow:Nat→Own} {β:Nat→Option (Option Nat)} {F:Env} {a:Act} {w:World}
end
end Go.Ev
/- The engine, part FF: values handed in for good: their blocks may go into the result. -/
namespace Go.Ev
open Go.RowKit (Below)
def DArgs (h:Array Obj) (ok:Nat→Prop) (H:Nat→List Nat):List (PV × Bool)→List Value→Nat→Prop
  | [],[],_=>True
  | (p,false)::ps,c::cs,k=>(∃ B,RelV h dead p c B∧∀ b ∈ B,ok b)∧DArgs h ok H ps cs (k+1)
  | (p,true)::ps,c::cs,k=>RelV h dead p c (H k)∧DArgs h ok H ps cs (k+1)
  | _,_,_=>False
def MeetsD (P:Program) (f:FuncId) (args:List (PV × Bool)) (r:PV):Prop :=
  ∀ (w:World) (cargs:Array Value) (ok:Nat→Prop) (H:Nat→List Nat),DArgs w.heap ok H args cargs.toList 0→(∀ k,(H k).Nodup∧∀ b ∈ H k,¬ok b∧cJ w b)→(∀ k k' b,b ∈ H k→b ∈ H k'→k=k') →
    Calls P f cargs w fun e w'=>∃ c B,e=.returned c∧Below w.heap.size w w'∧RelV w'.heap dead r c B∧B.Nodup∧∀ b ∈ B,cJ w' b∧(w.heap.size≤b∨∃ k,b ∈ H k)
theorem DArgs.get {h:Array Obj} {ok:Nat→Prop} {H:Nat→List Nat}:∀ {ps:List (PV × Bool)} {cs:List Value} {k0:Nat},DArgs h ok H ps cs k0→ps.length=cs.length∧∀ k p dp,ps[k]?=some (p,dp)→∃ B,RelV h dead p (cs.getD k undef) B∧(dp=false→∀ b ∈ B,ok b)∧(dp=true→B=H (k0+k))
  | [],[],_,_=>⟨rfl,fun k p dp h=>by simp at h⟩
  | (p,false)::ps,c::cs,k0,h=>by
    obtain ⟨⟨B,h1,h2⟩,h3⟩:=h
    obtain ⟨g1,g2⟩:=DArgs.get h3
    refine ⟨by simp [g1],fun k p' dp hk=>?_⟩
    cases k with
    | zero=>simp at hk;obtain ⟨rfl,rfl⟩:=hk;exact ⟨B,by simpa using h1,fun _=>h2,fun h=>by cases h⟩
    | succ k=>obtain ⟨B',q1,q2,q3⟩:=g2 k p' dp (by simpa using hk);exact ⟨B',by simpa using q1,q2,fun h=>by rw [q3 h];congr 1;omega⟩
  | (p,true)::ps,c::cs,k0,h=>by
    obtain ⟨h1,h3⟩:=h
    obtain ⟨g1,g2⟩:=DArgs.get h3
    refine ⟨by simp [g1],fun k p' dp hk=>?_⟩
    cases k with
    | zero=>simp at hk;obtain ⟨rfl,rfl⟩:=hk;exact ⟨H k0,by simpa using h1,(fun h=>by cases h),fun _=>rfl⟩
    | succ k=>obtain ⟨B',q1,q2,q3⟩:=g2 k p' dp (by simpa using hk);exact ⟨B',by simpa using q1,q2,fun h=>by rw [q3 h];congr 1;omega⟩
  | [],_::_,_,h=>h.elim
  | (_,false)::_,[],_,h=>h.elim
  | (_,true)::_,[],_,h=>h.elim
end Go.Ev
/- The engine, part GG: functions that write all that an own value holds. -/
namespace Go.Ev
open Go.RowKit (Below)
theorem pB {w:World} {b:Nat} (h:cJ w b):b < w.heap.size:=by
  obtain ⟨cs,t,g⟩:=h
  rcases Nat.lt_or_ge b w.heap.size with h | h
  · exact h
  · simp [Array.getElem?_eq_none h] at g
def slp:PV→PV
  | .was v _=>.sc v
  | p=>p
def stp:PV→PV
  | .was _ p=>p
  | p=>p
def rew:List PV→List PV→List PV
  | .was v _::ws,p::ps=>.was v p::rew ws ps
  | _::ws,p::ps=>p::rew ws ps
  | _,_=>[]
def hX:List PV→Bool
  | []=>true
  | .was _ _::r=>hX r
  | _=>false
inductive MCut:List PV→PV→PV→PV→List PV→Prop
  | one {v:Value} {p p':PV}:MCut [.was v p] (.sc v) p p' [.was v p']
  | agg {ws ns:List PV}:hX ws=true→Nat.beq ns.length ws.length=true→MCut ws (.agg (ws.map slp)) (.agg (ws.map stp)) (.agg ns) (rew ws ns)
section
variable {P:Program} {N:Nat} {Γ:Ctx P N} {S:List (Nat × Slot)} {O:List (Nat × Option Ob)} {ow:Nat→Own} {β:Nat→Option (Option Nat)} {F:Env} {a:Act} {w:World}
theorem Soft.was {v:Value} {p:PV}:Soft (.was v p) p:=by
  intro h β c B H
  simp only [RelV] at H
  exact H.2
variable {d:Nat} {ty:TypeId} {pos:String} {af:Array Edge} {g:Option (Nat × Bool)}
end
end Go.Ev
/- The engine, part HH: cells made known, values forgotten; functions that write what a struct holds. -/
namespace Go.Ev
open Go.RowKit (Below)
def Forg (p p':PV):Prop:=∀ (h:Array Obj) (β:Nat→Option (Option Nat)) (c:Value) (B:List Nat),RelV h β p c B→RelV h β p' c []
theorem Forg.was {v:Value} {p:PV}:Forg (.was v p) (.sc v):=by
  intro h β c B H
  simp only [RelV] at H ⊢
  exact ⟨H.1,trivial⟩
theorem pM {h:Array Obj} {q:Bool} {β:Nat→Option (Option Nat)}:∀ {ws:List PV} {cs:Array Value} {i:Nat} {O:List Nat},hX ws=true→RelL h q β ws cs i O→RelL h q β (ws.map slp) cs i []
  | [],_,_,_,_,_=>by simp [RelL]
  | p::ws,cs,i,O,ha,H=>by
    cases p with
    | was v p =>
      simp only [List.map_cons,slp,RelL,RelV] at H ⊢
      obtain ⟨c,O1,O2,h1,h2,h3,_⟩:=H
      exact ⟨c,[],[],h1,⟨h2.1,rfl⟩,pM (by simpa [hX] using ha) h3,rfl⟩
    | _=>simp [hX] at ha
theorem Forg.agg {ws:List PV} (ha:hX ws=true):Forg (.agg ws) (.agg (ws.map slp)):=by
  intro h β c B H
  simp only [RelV] at H ⊢
  obtain ⟨cs,h1,h2,h3⟩:=H
  exact ⟨cs,h1,by simpa using h2,pM ha h3⟩
section
variable {P:Program} {N:Nat} {Γ:Ctx P N} {S:List (Nat × Slot)} {O:List (Nat × Option Ob)} {ow:Nat→Own} {β:Nat→Option (Option Nat)} {F:Env} {a:Act} {w:World}
def RetM (Γ:Ctx P N) (rs:Array ResultVar) (E:Env) (k':Value) (ws:List PV):Prop :=
  RetIs Γ rs E (.sc k') true∧∀ a w,Sim Γ E a w→∃ E' l,Sim Γ E' a w∧lo E'.o l=some ⟨ws,true,false⟩
theorem RetM.mk {rs:Array ResultVar} {k':Value} {ws:List PV} (l:Nat) (h:RetIs Γ rs ⟨S,O⟩ (.sc k') true) (ho:loq O l=some ⟨ws,true,false⟩):RetM Γ rs ⟨S,O⟩ k' ws:=⟨h,fun _ _ hs=>⟨_,l,hs,by rw [← cA];exact ho⟩⟩
end
end Go.Ev
namespace Go.Ev
section
variable {α β:Type}
end
end Go.Ev
/- The engine, part II: laws that write what they have made: parameters that sleep. -/
namespace Go.Ev
open Go.RowKit (Below)
section
variable {P:Program} {N:Nat} {Γ:Ctx P N} {S:List (Nat × Slot)} {O:List (Nat × Option Ob)} {ow:Nat→Own} {β:Nat→Option (Option Nat)} {F:Env} {a:Act} {w:World}
def OldL (Γ:Ctx P N):List Value→List PV→Prop
  | v::vs,p::ps=>rG Γ v p∧OldL Γ vs ps
  | [],[]=>True
  | _,_=>False
theorem OldL.of {Γ:Ctx P N} (hB:∀ b,Γ.ok b→b < Γ.base→True):∀ {ps:List PV} {vs:List Value} {cs:Array Value} {i:Nat} {B:List Nat},vs.length=ps.length→(∀ k,k < vs.length→cs[i+k]?=vs[k]?)→eA ps=true→RelL Γ.w0.heap true dead ps cs i B→(∀ b ∈ B,Γ.ok b∧b < Γ.base∧(¬Γ.mine b∧¬Γ.lent b)∧∀ l,Γ.io l≠some b)→OldL Γ vs ps
  | [],[],_,_,_,_,_,_,_,_=>trivial
  | p::ps,v::vs,cs,i,B,hl,hk,hn,H,hb=>by
    simp only [RelL] at H
    obtain ⟨c,O1,O2,h1,h2,h3,rfl⟩:=H
    have h0:=hk 0 (by simp)
    simp only [Nat.add_zero,List.getElem?_cons_zero] at h0
    rw [h1.1] at h0;injection h0 with h0
    subst h0
    refine ⟨⟨dN hn p (by simp),O1,h2,fun b hb'=>hb b (by simp [hb'])⟩,?_⟩
    refine OldL.of hB (by simpa using hl) (fun k hk'=>?_) ?_ h3 (fun b hb'=>hb b (by simp [hb']))
    · have:=hk (k+1) (by simpa using hk')
      rw [show i+1+k=i+(k+1) by omega,this];simp
    · simp only [eA,Bool.and_eq_true] at hn;exact hn.2
  | [],_::_,_,_,_,hl,_,_,_,_=>by simp at hl
  | _::_,[],_,_,_,hl,_,_,_,_=>by simp at hl
end
end Go.Ev
/- The engine, part JJ: rows that become values as they are made. -/
namespace Go.Ev
open Go.RowKit (Below)
section
variable {P:Program} {N:Nat} {Γ:Ctx P N} {S:List (Nat × Slot)} {O:List (Nat × Option Ob)} {ow:Nat→Own} {β:Nat→Option (Option Nat)} {F:Env} {a:Act} {w:World}
end
end Go.Ev
/- The engine, part KK: a law's rest, begun anew: what there is by then is old. -/
namespace Go.Ev
open Go.RowKit (Below)
section
variable {P:Program} {N:Nat} {Γ:Ctx P N} {S:List (Nat × Slot)} {O:List (Nat × Option Ob)}
end
end Go.Ev
/- The engine, part LL: rows that grow within a struct. -/
namespace Go.Ev
open Go.RowKit (Below)
section
variable {P:Program} {N:Nat} {Γ:Ctx P N} {S:List (Nat × Slot)} {O:List (Nat × Option Ob)}
end
end Go.Ev
/- The engine, part MM: values handed over for good. -/
namespace Go.Ev
open Go.RowKit (Below)
def fT:List (PV × Bool)→Nat→List (Nat × Slot)
  | [],_=>[]
  | (p,dp)::r,k=>(k,⟨p,dp⟩)::fT r (k+1)
theorem jI:∀ (ps:List (PV × Bool)) (i k:Nat),lk (fT ps i) k=if i≤k∧k - i < ps.length then ⟨(ps.getD (k - i) (.any,false)).1,(ps.getD (k - i) (.any,false)).2⟩ else ⟨.any,false⟩
  | [],i,k=>by simp [fT,lk]
  | (p,dp)::r,i,k=>by
    rw [fT,bY,jI r (i+1) k]
    by_cases h:i=k
    · subst h;simp
    · rw [if_neg h]
      by_cases h2:i+1≤k∧k - (i+1) < r.length
      · rw [if_pos h2,if_pos (by simp;omega)]
        have:k - i=(k - (i+1))+1:=by omega
        rw [this];simp
      · rw [if_neg h2,if_neg (by simp;omega)]
theorem MeetsD.intro {P:Program} {N:Nat} {f:FuncId} {fn:Func} {c:Code} {args:List (PV × Bool)} {r:PV} {rs:Array ResultVar} (hf:P.funcs[f]?=some fn) (hb:fn.body=some c) (hN:fn.ntmps=N) (hrs:fn.results=rs) (hn:Nat.ble args.length N=true)
    (h:∀ Γ:Ctx P N,(∀ l,Nat.blt l 100000=true→Γ.io l=none)→CodeT Γ c ⟨fT args 0,[]⟩ (gM Γ rs r true)):MeetsD P f args r:=by
  classical
  intro w cargs ok H ha hH hdis
  obtain ⟨h1,h2⟩:=ha.get
  have hn:=Nat.le_of_ble_eq_true hn
  let Γ:Ctx P N:={ base:=w.heap.size,ok:=ok,io:=fun _=>none,w0:=w,mine:=fun _=>False,lent:=fun b=>∃ k,b ∈ H k }
  have hsz:(cargs++Array.replicate (fn.ntmps - cargs.size) undef).size=N:=by
    have:cargs.size=args.length:=by rw [h1];simp
    simp [this,hN];omega
  refine calls_of_wp hf hb ?_
  let ow:Nat→Own:=fun b=>if hh:∃ k,b ∈ H k then .slot hh.choose else .none
  have how:∀ b k,b ∈ H k→ow b=.slot k:=by
    intro b k e
    have hh:∃ k,b ∈ H k:=⟨k,e⟩
    show (if hh:_ then _ else _)=_
    rw [dif_pos hh,hdis _ _ b hh.choose_spec e]
  have hnl:∀ b l,ow b≠.lab l:=by
    intro b l e
    have e:(if hh:∃ k,b ∈ H k then Own.slot hh.choose else .none)=.lab l:=e
    split at e <;> cases e
  have hsim:Sim Γ ⟨fT args 0,[]⟩ { tmps:=cargs++Array.replicate (fn.ntmps - cargs.size) undef,defers:=[] } w:=by
    refine ⟨ow,fun _=>none,{ size:=hsz,defers:=rfl,kept:=⟨rfl,rfl,rfl,Nat.le_refl _,fun _ _ _ _=>rfl,fun b _ _ cs t h=>⟨cs,h,rfl⟩⟩,slots:=fun k=>?_,objs:=fun l ob hl=>(by simp [lo] at hl),gone:=fun _ _=>rfl,own:=fun b hb=>?_,ios:=fun l b hl=>(by cases hl),fresh:=fun l b hl=>(by cases hl) }⟩
    · rw [jI]
      by_cases hk:k < args.length
      · rw [if_pos ⟨Nat.zero_le _,by simpa using hk⟩]
        have e1:args[k]?=some (args.getD k (.any,false)):=by
          rw [List.getElem?_eq_getElem hk,List.getD_eq_getElem?_getD,List.getElem?_eq_getElem hk];rfl
        obtain ⟨B,g1,g2,g3⟩:=h2 k _ _ e1
        rw [Nat.zero_add] at g3
        have e:(cargs++Array.replicate (fn.ntmps - cargs.size) undef).getD k undef=cargs.toList.getD k undef:=by
          have hlt:k < cargs.size:=by rw [h1] at hk;simpa using hk
          simp [Array.getD_eq_getD_getElem?,Array.getElem?_append,hlt,List.getD_eq_getElem?_getD]
        simp only [Nat.sub_zero]
        refine ⟨B,?_,fun b hb=>⟨RelV.below _ _ _ g1 b hb,?_,fun l=>hnl b l⟩,fun hd=>?_⟩
        · rw [e]
          exact RelV.keep _ _ _ (fun l _=>by intro ob h;cases h) (fun _ _=>rfl) g1
        · cases hdp:(args.getD k (.any,false)).2 with
          | false=>exact .inl (g2 hdp b hb)
          | true=>exact .inr (.inr ⟨k,by rw [← g3 hdp];exact hb⟩)
        · have g4:=g3 hd
          subst g4
          exact ⟨(hH k).1,fun b hb=>⟨how b k hb,((hH k).2 b hb).2⟩⟩
      · rw [if_neg (by simpa using hk)]
        exact ⟨[],by simp [RelV],by simp,by simp⟩
    · have hh:∃ k,b ∈ H k:=by
        rcases Classical.em (∃ k,b ∈ H k) with hh | hh
        · exact hh
        · exfalso;apply hb;show (if hh:∃ k,b ∈ H k then Own.slot hh.choose else .none)=_;rw [dif_neg hh]
      obtain ⟨k,hk⟩:=hh
      exact ⟨pB ((hH k).2 b hk).2,.inl (.inr ⟨k,hk⟩)⟩
  refine wp_mono (h Γ (fun _ _=>rfl) _ _ hsim) fun e a' w' ⟨E',hs',hq⟩=>?_
  have fin:RetIs Γ rs E' r true→a'.defers=[]∧∃ v,(results fn a'.tmps).run P w'=.ok v w'∧∃ c B,Ending.returned v=.returned c∧Below w.heap.size w w'∧RelV w'.heap dead r c B∧B.Nodup∧∀ b ∈ B,cJ w' b∧(w.heap.size≤b∨∃ k,b ∈ H k):=by
    intro hr
    obtain ⟨c,B,g1,g2,g3,g4⟩:=hr fn hrs a' w' hs'
    obtain ⟨ow2,β2,hs'⟩:=hs'
    obtain ⟨g5,g6⟩:=g4 rfl
    refine ⟨hs'.defers,c,g1,c,B,rfl,⟨hs'.kept.os,hs'.kept.tape,hs'.kept.output,hs'.kept.size,fun k hk=>hs'.kept.old k hk (fun l=>by simp [Γ]) (fun h=>h)⟩,g2,g5,fun b hb=>⟨(g6 b hb).1,?_⟩⟩
    rcases (g6 b hb).2 with (g | g) | g
    · exact .inl g
    · exact g.elim
    · exact .inr g
  cases e with
  | normal=>exact fin hq
  | ret=>exact fin hq
  | exit id=>exact hq.elim
  | goto l=>exact hq.elim
  | panic ch=>exact hq.elim
  | outgrown=>exact hq.elim
section
variable {P:Program} {N:Nat} {Γ:Ctx P N} {S:List (Nat × Slot)} {O:List (Nat × Option Ob)} {ow:Nat→Own} {β:Nat→Option (Option Nat)} {F:Env} {a:Act} {w:World}
variable {d:Nat} {ty:TypeId} {pos:String} {af:Array Edge} {g:Option (Nat × Bool)}
end
end Go.Ev
/- The engine, part NN: the first change of a rule that makes several, softened. -/
namespace Go.Ev
section
variable {P:Program} {N:Nat} {Γ:Ctx P N} {S:List (Nat × Slot)} {O:List (Nat × Option Ob)}
end
end Go.Ev
/- The engine, part OO: short forms: a rule and the step that uses it in one (printed by mkoo.py). -/
namespace Go.Ev
section
variable {P:Program} {N:Nat} {Γ:Ctx P N} {S S':List (Nat × Slot)} {O O':List (Nat × Option Ob)}
theorem dn {ops:List Oper} {X:List Item→Prop} {Q:Env→Prop} {acc:List Item} {E:Env} (h:Q E):Run Γ ops (fun items E'=>(false=true→X items)∧Q E') [] acc E:=.done ⟨fun h=>Bool.noConfusion h,h⟩
theorem sq {x y:Code} {E:Env} {Q:Exit→Env→Prop} (h:CodeT Γ x E (dK (fun E'=>CodeT Γ y E' Q) Q)):CodeT Γ (.seq x y) E Q:=CodeT.seq h
def jU (S:List (Nat × Slot)):List (Nat × Slot)→List (Option PV)
  | []=>[]
  | (k,_)::r=>(lkq S k).map (·.v)::jU S r
def jT (ρ:List (Nat × Nat)):List (Nat × Slot)→List (Option PV)
  | []=>[]
  | (_,sl)::r=>some (pA ρ sl.v)::jT ρ r
def kJ (S:List (Nat × Slot)):List (Nat × Slot)→Bool
  | []=>true
  | (k,sl)::r=>(match sl.deep with | true=>(match lkq S k with | some s=>s.deep | none=>false) | false=>true)&&kJ S r
theorem EntS.fast {ρ:List (Nat × Nat)}:∀ {S':List (Nat × Slot)},jU S S'=jT ρ S'→kJ S S'=true→EntS ρ S S'
  | [],_,_=>trivial
  | (k,sl)::r,h1,h2=>by
    simp only [jU,jT,List.cons.injEq] at h1
    simp only [kJ,Bool.and_eq_true] at h2
    refine ⟨?_,EntS.fast h1.2 h2.2⟩
    cases hs:lkq S k with
    | none=>rw [hs] at h1;simp at h1
    | some s =>
      rw [hs] at h1 h2
      refine ⟨s.deep,?_,fun hd=>?_⟩
      · have:=h1.1;simp only [Option.map_some,Option.some.injEq] at this;rw [← this]
      · have:=h2.1;rw [hd] at this;simpa using this
def iA (ρ:List (Nat × Nat)) (O:List (Nat × Option Ob)):List (Nat × Option Ob)→List (Option (List PV × Bool))
  | []=>[]
  | (_,none)::r=>iA ρ O r
  | (l,some _)::r=>(loq O (rn ρ l)).map (fun o=>(o.cells,o.box))::iA ρ O r
def hZ (ρ:List (Nat × Nat)):List (Nat × Option Ob)→List (Option (List PV × Bool))
  | []=>[]
  | (_,none)::r=>hZ ρ r
  | (_,some ob)::r=>some (match ob.box with | true=>nK ρ ob.cells | false=>ob.cells,ob.box)::hZ ρ r
def iD (ρ:List (Nat × Nat)) (O:List (Nat × Option Ob)):List (Nat × Option Ob)→Bool
  | []=>true
  | (_,none)::r=>iD ρ O r
  | (l,some ob)::r=>(match ob.deep with | true=>(match loq O (rn ρ l) with | some o=>o.deep | none=>false) | false=>true)&&iD ρ O r
theorem EntO.fast {ρ:List (Nat × Nat)}:∀ {O':List (Nat × Option Ob)},iA ρ O O'=hZ ρ O'→iD ρ O O'=true→EntO ρ O O'
  | [],_,_=>trivial
  | (_,none)::r,h1,h2=>by
    simp only [iA,hZ] at h1
    simp only [iD] at h2
    simp only [EntO]
    exact EntO.fast h1 h2
  | (l,some ob)::r,h1,h2=>by
    simp only [iA,hZ,List.cons.injEq] at h1
    simp only [iD,Bool.and_eq_true] at h2
    simp only [EntO]
    refine ⟨?_,EntO.fast h1.2 h2.2⟩
    cases hs:loq O (rn ρ l) with
    | none=>rw [hs] at h1;simp at h1
    | some o =>
      rw [hs] at h1 h2
      have h3:=h1.1
      simp only [Option.map_some,Option.some.injEq,Prod.mk.injEq] at h3
      refine ⟨o.deep,?_,fun hd=>?_⟩
      · obtain ⟨c1,c2⟩:=h3
        cases o;simp only [] at c1 c2 ⊢
        rw [c1,c2];cases ob.box <;> rfl
      · have:=h2.1;rw [hd] at this;simpa using this
theorem el (ρ:List (Nat × Nat)) (hio:∀ l,Γ.io (rn ρ l)=Γ.io l∧(Γ.io l≠none→rn ρ l=l)) (hi:mK ρ (eG O')=true) (h1:jU S S'=jT ρ S') (h2:kJ S S'=true) (h3:iA ρ O O'=hZ ρ O') (h4:iD ρ O O'=true):Ent Γ ⟨S,O⟩ ⟨S',O'⟩ :=
  Ent.list ρ hio hi (EntS.fast h1 h2) (EntO.fast h3 h4)
variable {d:Nat} {ty:TypeId} {pos:String} {af:Array Edge} {g:Option (Nat × Bool)}
variable {x y:Operand} {u u':TypeId} {k:IntKind} {m n r:Int}
variable {ops rest:List Oper} {K:List Item→Env→Prop} {acc:List Item} {gs:List Nat}
def mI (c:PV):Bool:=match c.labs with | []=>true | _=>false
theorem lN {bx:Bool} {c:PV} (h:(bx||mI c)=true):bx=true∨c.labs=[]:=by
  cases bx with
  | true=>exact .inl rfl
  | false =>
    right
    simp only [Bool.false_or,mI] at h
    split at h
    · assumption
    · cases h
end
end Go.Ev
/- The engine, part PP: a drawn region in which one pair of operations is not ordered (printed by mkpp.py). -/
namespace Go.Ev
def XOk {P:Program} {N:Nat} (Γ:Ctx P N) (ops:Array Oper) (items:List Item) (E0:Env) (p q:Nat):Prop :=
  ∃ x y,items[q]?=some x∧items[p]?=some y∧p < q∧dV x y=false∧x.nl=[]∧y.nl=[]∧cY Γ ops q (pt (fun j=>Nat.blt j q&&!(Nat.beq j p)) items 0 E0) x.e x.rs x.ro x.nl
theorem XOk.intro {P:Program} {N:Nat} {Γ:Ctx P N} {ops:Array Oper} {items:List Item} {E0:Env} {p q:Nat} {x y:Item} {o:Oper} (h1:items[q]?=some x) (h2:items[p]?=some y) (h3:Nat.blt p q=true) (h4:dV x y=false) (h5:x.nl=[]) (h6:y.nl=[])
    (ho:ops[q]?=some o) (hg:o.guard=none) (hl:Local Γ o ⟨(pt (fun j=>Nat.blt j q&&!(Nat.beq j p)) items 0 E0).s,(pt (fun j=>Nat.blt j q&&!(Nat.beq j p)) items 0 E0).o⟩ x.e x.rs x.ro x.nl):XOk Γ ops items E0 p q :=
  ⟨x,y,h1,h2,(aH _ _).1 h3,h4,h5,h6,Local.at ho hg hl⟩
section
variable {P:Program} {N:Nat} {Γ:Ctx P N} {E:Env} {Q:Exit→Env→Prop}
end
end Go.Ev
/- The engine, part QQ: functions that return a new row whose elements are shared: the row becomes the caller's own row. -/
namespace Go.Ev
open Go.RowKit (Below)
def MeetsF (P:Program) (f:FuncId) (args:List PV) (s n:Nat) (cells:List PV):Prop :=
  ∀ (w:World) (cargs:Array Value) (ok:Nat→Prop),RelArgs w.heap ok args cargs.toList →
    Calls P f cargs w fun e w'=>∃ c B,e=.returned c∧Below w.heap.size w w'∧RelV w'.heap dead (.rw s n cells) c B∧(∀ b ∈ B,b < w'.heap.size∧(ok b∨w.heap.size≤b))∧(∀ b B',B=b::B'→w.heap.size≤b∧b ∉ B')
section
variable {P:Program} {N:Nat} {Γ:Ctx P N} {S:List (Nat × Slot)} {O:List (Nat × Option Ob)} {ow:Nat→Own} {β:Nat→Option (Option Nat)} {F:Env} {a:Act} {w:World}
def ResF (Γ:Ctx P N) (rs:Array ResultVar) (E:Env) (s n:Nat) (cells:List PV):Prop :=
  ∀ fn:Func,fn.results=rs→∀ a w,Sim Γ E a w→∃ c B,(results fn a.tmps).run P w=.ok c w∧RelV w.heap dead (.rw s n cells) c B∧(∀ b ∈ B,b < w.heap.size∧(Γ.ok b∨Γ.nw b))∧(∀ b B',B=b::B'→Γ.nww b∧b ∉ B')
def qN (Γ:Ctx P N) (rs:Array ResultVar) (s n:Nat) (cells:List PV):Exit→Env→Prop
  | .normal,E=>ResF Γ rs E s n cells
  | .ret,E=>ResF Γ rs E s n cells
  | _,_=>False
theorem ResF.weak {E E0:Env} {rs:Array ResultVar} {s n:Nat} {cells:List PV} (he:Ent Γ E E0) (h:ResF Γ rs E0 s n cells):ResF Γ rs E s n cells:=fun fn hf a w hs=>h fn hf a w (he a w hs)
theorem ResF.mk {t l s n:Nat} {cells:List PV} {dp dp0:Bool} (h:lkq S t=some ⟨.ref l s 0 n,dp0⟩) (ho:loq O l=some ⟨cells,dp,false⟩) (hio:Γ.io l=none):ResF Γ #[.tmp t] ⟨S,O⟩ s n cells:=by
  rintro fn hf a w ⟨ow,β,hs⟩
  rw [dW hf]
  obtain ⟨B,h1,_⟩:=hs.slots t
  rw [cK h] at h1
  simp only [RelV] at h1
  obtain ⟨Bo,o1,o2,hob⟩:=hs.objs l ⟨cells,dp,false⟩ (by rw [← cA];exact ho)
  rcases hob with ⟨p1,p2,p3⟩ | ⟨b,cs,u,p1,p2,p3,p4⟩
  · obtain ⟨rfl,_,e⟩:=h1.2.1 p1
    simp only at p2;subst p2
    exact ⟨_,[],rfl,by simp only [RelV];exact .inl ⟨trivial,trivial,trivial,e⟩,by simp,by simp⟩
  · obtain ⟨cap,cs',u',q1,q0,q3,q4⟩:=h1.2.2 b p1
    rw [p3] at q0;cases q0
    simp only [Nat.zero_mul,Nat.zero_add] at q1 q3
    refine ⟨_,b::Bo,rfl,by simp only [RelV];exact .inr ⟨b,cap,cs,u,Bo,⟨q1,q4,q3⟩,p3,by simpa using p4,rfl⟩,fun c hc=>?_,fun b' B' e=>?_⟩
    · rcases List.mem_cons.1 hc with rfl | hc
      · exact ⟨hs.block_lt p1,.inr (.inl (hs.fresh l _ p1 hio))⟩
      · exact ⟨(o1 c hc).1,(o1 c hc).2.1⟩
    · cases e
      exact ⟨hs.fresh l _ p1 hio,fun hb=>(o1 b hb).2.2 l p2⟩
theorem MeetsF.intro {f:FuncId} {fn:Func} {c:Code} {args:List PV} {s n:Nat} {cells:List PV} {rs:Array ResultVar} (hf:P.funcs[f]?=some fn) (hb:fn.body=some c) (hN:fn.ntmps=N) (hrs:fn.results=rs) (hn:Nat.ble args.length N=true)
    (h:∀ Γ:Ctx P N,(∀ l,Nat.blt l 100000=true→Γ.io l=none)→CodeT Γ c ⟨bH args 0,[]⟩ (qN Γ rs s n cells)):MeetsF P f args s n cells:=by
  intro w cargs ok ha
  obtain ⟨h1,h2⟩:=ha.get
  have hn:=Nat.le_of_ble_eq_true hn
  let Γ:Ctx P N:={ base:=w.heap.size,ok:=fun b=>ok b,io:=fun _=>none,w0:=w,mine:=fun _=>False,lent:=fun _=>False }
  have hsz:(cargs++Array.replicate (fn.ntmps - cargs.size) undef).size=N:=by
    have:cargs.size=args.length:=by rw [h1];simp
    simp [this,hN];omega
  refine calls_of_wp hf hb ?_
  have hsim:Sim Γ ⟨bH args 0,[]⟩ { tmps:=cargs++Array.replicate (fn.ntmps - cargs.size) undef,defers:=[] } w:=by
    refine ⟨fun _=>.none,fun _=>none,{ size:=hsz,defers:=rfl,kept:=⟨rfl,rfl,rfl,Nat.le_refl _,fun _ _ _ _=>rfl,fun b _ _ cs t h=>⟨cs,h,rfl⟩⟩,slots:=fun k=>?_,objs:=fun l ob hl=>(by simp [lo] at hl),gone:=fun _ _=>rfl,own:=fun b hb=>absurd rfl hb,ios:=fun l b hl=>(by cases hl),fresh:=fun l b hl=>(by cases hl) }⟩
    rw [cI]
    by_cases hk:k < args.length
    · rw [if_pos ⟨Nat.zero_le _,by simpa using hk⟩]
      obtain ⟨B,g1,g2⟩:=h2 k hk
      refine ⟨B,?_,fun b hb=>⟨RelV.below _ _ _ g1 b hb,.inl (g2 b hb),fun l=>by simp⟩,by simp⟩
      have e:(cargs++Array.replicate (fn.ntmps - cargs.size) undef).getD k undef=cargs.toList.getD k undef:=by
        have hlt:k < cargs.size:=by rw [h1] at hk;simpa using hk
        simp [Array.getD_eq_getD_getElem?,Array.getElem?_append,hlt,List.getD_eq_getElem?_getD]
      rw [e]
      simp only [Nat.sub_zero]
      exact RelV.keep _ _ _ (fun l _=>by intro ob h;cases h) (fun _ _=>rfl) g1
    · rw [if_neg (by simpa using hk)]
      exact ⟨[],by simp [RelV],by simp,by simp⟩
  refine wp_mono (h Γ (fun _ _=>rfl) _ _ hsim) fun e a' w' ⟨E',hs',hq⟩=>?_
  have fin:ResF Γ rs E' s n cells→a'.defers=[]∧∃ v,(results fn a'.tmps).run P w'=.ok v w'∧∃ c B,Ending.returned v=.returned c∧Below w.heap.size w w'∧RelV w'.heap dead (.rw s n cells) c B∧(∀ b ∈ B,b < w'.heap.size∧(ok b∨w.heap.size≤b))∧(∀ b B',B=b::B'→w.heap.size≤b∧b ∉ B'):=by
    intro hr
    obtain ⟨c,B,g1,g2,g3,g4⟩:=hr fn hrs a' w' hs'
    obtain ⟨ow,β,hs'⟩:=hs'
    exact ⟨hs'.defers,c,g1,c,B,rfl,⟨hs'.kept.os,hs'.kept.tape,hs'.kept.output,hs'.kept.size,fun k hk=>hs'.kept.old k hk (fun l=>by simp [Γ]) (fun h=>h)⟩,g2,fun b hb=>⟨(g3 b hb).1,(g3 b hb).2.imp id (fun h=>(h.elim id False.elim:Γ.nww b).elim id False.elim)⟩,fun b B' e=>⟨(g4 b B' e).1.elim id False.elim,(g4 b B' e).2⟩⟩
  cases e with
  | normal=>exact fin hq
  | ret=>exact fin hq
  | exit id=>exact hq.elim
  | goto l=>exact hq.elim
  | panic ch=>exact hq.elim
  | outgrown=>exact hq.elim
variable {d:Nat} {ty:TypeId} {pos:String} {af:Array Edge} {g:Option (Nat × Bool)}
end
end Go.Ev
/- The engine, part RR: a rule and the step that uses it in one; what is plain is found by itself (printed by mkrr.py). -/
namespace Go.Ev
section
variable {P:Program} {N:Nat} {Γ:Ctx P N} {S S':List (Nat × Slot)} {O O':List (Nat × Option Ob)}
variable {d:Nat} {ty:TypeId} {pos:String} {af:Array Edge} {g:Option (Nat × Bool)}
variable {x y:Operand} {u u':TypeId} {k:IntKind} {m n r:Int}
variable {ops rest:List Oper} {K:List Item→Env→Prop} {acc:List Item} {gs:List Nat}
theorem qV {x:Operand} {v:PV} (hrun:Run Γ ops K rest (⟨⟨[(d,⟨v,false⟩)],[]⟩,gs++(ors x),[],[]⟩::acc) ⟨[(d,⟨v,false⟩)]++S,[]++O⟩) (hv:evq S x=some v:=by rfl) (hd:Nat.blt d N=true:=by rfl) (hgd:gd N ops S true g=some gs:=by rfl):Run Γ ops K (⟨some d,.move x,ty,pos,af,g⟩::rest) acc ⟨S,O⟩:=.op (aA hv hd) hgd rfl hrun
theorem rE {x:Operand} {v:PV} (hrun:Run Γ ops K rest (⟨⟨[(d,⟨v,false⟩)],[]⟩,gs++(ors x),[],[]⟩::acc) ⟨[(d,⟨v,false⟩)]++S,[]++O⟩) (hv:evq S x=some v:=by rfl) (hd:Nat.blt d N=true:=by rfl) (hgd:gd N ops S true g=some gs:=by rfl):Run Γ ops K (⟨some d,.assign x,ty,pos,af,g⟩::rest) acc ⟨S,O⟩:=.op (aB hv hd) hgd rfl hrun
theorem pY {x:Operand} {t f off l k:Nat} {ob:Ob} [hf:FldT P t f off] (hrun:Run Γ ops K rest (⟨⟨[(d,⟨.ptr l (k+off),false⟩)],[]⟩,gs++(ors x),[l],[]⟩::acc) ⟨[(d,⟨.ptr l (k+off),false⟩)]++S,[]++O⟩) (hx:evq S x=some (.ptr l k):=by rfl) (ho:loq O l=some ob:=by rfl) (hne:Nat.blt 0 ob.cells.length=true:=by rfl) (hd:Nat.blt d N=true:=by rfl) (hgd:gd N ops S true g=some gs:=by rfl):Run Γ ops K (⟨some d,.fieldAddr t x f,ty,pos,af,g⟩::rest) acc ⟨S,O⟩:=.op (aD hx ho hne hd) hgd rfl hrun
theorem qY {x:Operand} {t e:Nat} [ht:SlT P t e] {n:Nat} {cells:List PV} (hrun:Run Γ ops K rest (⟨⟨[(d,⟨.sc (.int .i64 n),false⟩)],[]⟩,gs++(ors x),[],[]⟩::acc) ⟨[(d,⟨.sc (.int .i64 n),false⟩)]++S,[]++O⟩) (hx:evq S x=some (.sl n cells):=by rfl) (hd:Nat.blt d N=true:=by rfl) (hgd:gd N ops S true g=some gs:=by rfl):Run Γ ops K (⟨some d,.call ⟨.builtin .len,#[x],#[t]⟩,ty,pos,af,g⟩::rest) acc ⟨S,O⟩:=.op (rI hx hd) hgd rfl hrun
theorem pH {c x y:Operand} {v:PV} (hrun:Run Γ ops K rest (⟨⟨[(d,⟨v,false⟩)],[]⟩,gs++(ors c++ors x),[],[]⟩::acc) ⟨[(d,⟨v,false⟩)]++S,[]++O⟩) (hc:evq S c=some (.sc (.bool true)):=by rfl) (hv:evq S x=some v:=by rfl) (hd:Nat.blt d N=true:=by rfl) (hgd:gd N ops S true g=some gs:=by rfl):Run Γ ops K (⟨some d,.pick c x y,ty,pos,af,g⟩::rest) acc ⟨S,O⟩:=.op (aE hc hv hd) hgd rfl hrun
theorem pI {c x y:Operand} {v:PV} (hrun:Run Γ ops K rest (⟨⟨[(d,⟨v,false⟩)],[]⟩,gs++(ors c++ors y),[],[]⟩::acc) ⟨[(d,⟨v,false⟩)]++S,[]++O⟩) (hc:evq S c=some (.sc (.bool false)):=by rfl) (hv:evq S y=some v:=by rfl) (hd:Nat.blt d N=true:=by rfl) (hgd:gd N ops S true g=some gs:=by rfl):Run Γ ops K (⟨some d,.pick c x y,ty,pos,af,g⟩::rest) acc ⟨S,O⟩:=.op (aF hc hv hd) hgd rfl hrun
theorem rF  (hrun:Run Γ ops K rest (⟨⟨[(d,⟨.sc (.int k r),false⟩)],[]⟩,gs++(ors x++ors y),[],[]⟩::acc) ⟨[(d,⟨.sc (.int k r),false⟩)]++S,[]++O⟩) (hx:evq S x=some (.sc (.int k m)):=by rfl) (hy:evq S y=some (.sc (.int k n)):=by rfl) (hr:k.wrap (m+n)=r:=by rfl) (hd:Nat.blt d N=true:=by rfl) (hgd:gd N ops S true g=some gs:=by rfl):Run Γ ops K (⟨some d,.binOp .add u x y u',ty,pos,af,g⟩::rest) acc ⟨S,O⟩:=.op (kM hx hy hr hd) hgd rfl hrun
theorem qP  (hrun:Run Γ ops K rest (⟨⟨[(d,⟨.sc (.int k r),false⟩)],[]⟩,gs++(ors x++ors y),[],[]⟩::acc) ⟨[(d,⟨.sc (.int k r),false⟩)]++S,[]++O⟩) (hx:evq S x=some (.sc (.int k m)):=by rfl) (hy:evq S y=some (.sc (.int k n)):=by rfl) (hr:k.wrap (m - n)=r:=by rfl) (hd:Nat.blt d N=true:=by rfl) (hgd:gd N ops S true g=some gs:=by rfl):Run Γ ops K (⟨some d,.binOp .sub u x y u',ty,pos,af,g⟩::rest) acc ⟨S,O⟩:=.op (mB hx hy hr hd) hgd rfl hrun
theorem qS {x:Operand} {u:TypeId} {b:Bool} (hrun:Run Γ ops K rest (⟨⟨[(d,⟨.sc (.bool (!b)),false⟩)],[]⟩,gs++(ors x),[],[]⟩::acc) ⟨[(d,⟨.sc (.bool (!b)),false⟩)]++S,[]++O⟩) (hx:evq S x=some (.sc (.bool b)):=by rfl) (hd:Nat.blt d N=true:=by rfl) (hgd:gd N ops S true g=some gs:=by rfl):Run Γ ops K (⟨some d,.unOp .not u x,ty,pos,af,g⟩::rest) acc ⟨S,O⟩:=.op (dG hx hd) hgd rfl hrun
theorem qW  (hrun:Run Γ ops K rest (⟨⟨[(d,⟨.sc (.bool (decide (m < n))),false⟩)],[]⟩,gs++(ors x++ors y),[],[]⟩::acc) ⟨[(d,⟨.sc (.bool (decide (m < n))),false⟩)]++S,[]++O⟩) (hx:evq S x=some (.sc (.int k m)):=by rfl) (hy:evq S y=some (.sc (.int k n)):=by rfl) (hd:Nat.blt d N=true:=by rfl) (hgd:gd N ops S true g=some gs:=by rfl):Run Γ ops K (⟨some d,.binOp .lss u x y u',ty,pos,af,g⟩::rest) acc ⟨S,O⟩:=.op (iE hx hy hd) hgd rfl hrun
theorem qX  (hrun:Run Γ ops K rest (⟨⟨[(d,⟨.sc (.bool (decide (m≤n))),false⟩)],[]⟩,gs++(ors x++ors y),[],[]⟩::acc) ⟨[(d,⟨.sc (.bool (decide (m≤n))),false⟩)]++S,[]++O⟩) (hx:evq S x=some (.sc (.int k m)):=by rfl) (hy:evq S y=some (.sc (.int k n)):=by rfl) (hd:Nat.blt d N=true:=by rfl) (hgd:gd N ops S true g=some gs:=by rfl):Run Γ ops K (⟨some d,.binOp .leq u x y u',ty,pos,af,g⟩::rest) acc ⟨S,O⟩:=.op (jN hx hy hd) hgd rfl hrun
theorem rB  (hrun:Run Γ ops K rest (⟨⟨[(d,⟨.sc (.bool (decide (n < m))),false⟩)],[]⟩,gs++(ors x++ors y),[],[]⟩::acc) ⟨[(d,⟨.sc (.bool (decide (n < m))),false⟩)]++S,[]++O⟩) (hx:evq S x=some (.sc (.int k m)):=by rfl) (hy:evq S y=some (.sc (.int k n)):=by rfl) (hd:Nat.blt d N=true:=by rfl) (hgd:gd N ops S true g=some gs:=by rfl):Run Γ ops K (⟨some d,.binOp .gtr u x y u',ty,pos,af,g⟩::rest) acc ⟨S,O⟩:=.op (kL hx hy hd) hgd rfl hrun
theorem rD  (hrun:Run Γ ops K rest (⟨⟨[(d,⟨.sc (.bool (decide (m=n))),false⟩)],[]⟩,gs++(ors x++ors y),[],[]⟩::acc) ⟨[(d,⟨.sc (.bool (decide (m=n))),false⟩)]++S,[]++O⟩) (hx:evq S x=some (.sc (.int k m)):=by rfl) (hy:evq S y=some (.sc (.int k n)):=by rfl) (hd:Nat.blt d N=true:=by rfl) (hgd:gd N ops S true g=some gs:=by rfl):Run Γ ops K (⟨some d,.binOp .eql u x y u',ty,pos,af,g⟩::rest) acc ⟨S,O⟩:=.op (cU hx hy hd) hgd rfl hrun
theorem qT  (hrun:Run Γ ops K rest (⟨⟨[(d,⟨.sc (.bool (decide (m≠n))),false⟩)],[]⟩,gs++(ors x++ors y),[],[]⟩::acc) ⟨[(d,⟨.sc (.bool (decide (m≠n))),false⟩)]++S,[]++O⟩) (hx:evq S x=some (.sc (.int k m)):=by rfl) (hy:evq S y=some (.sc (.int k n)):=by rfl) (hd:Nat.blt d N=true:=by rfl) (hgd:gd N ops S true g=some gs:=by rfl):Run Γ ops K (⟨some d,.binOp .neq u x y u',ty,pos,af,g⟩::rest) acc ⟨S,O⟩:=.op (oQ hx hy hd) hgd rfl hrun
theorem pZ {x:Operand} {t f off:Nat} {cells:List PV} [hf:FldT P t f off] (hrun:Run Γ ops K rest (⟨⟨[(d,⟨.iptr (cells.drop off),false⟩)],[]⟩,gs++(ors x),[],[]⟩::acc) ⟨[(d,⟨.iptr (cells.drop off),false⟩)]++S,[]++O⟩) (hx:evq S x=some (.iptr cells):=by rfl) (hd:Nat.blt d N=true:=by rfl) (hgd:gd N ops S true g=some gs:=by rfl):Run Γ ops K (⟨some d,.fieldAddr t x f,ty,pos,af,g⟩::rest) acc ⟨S,O⟩:=.op (qF hx hd) hgd rfl hrun
theorem rA {x:Operand} {t n by_:Nat} {cells:List PV} {c:PV} [ht:TI P t n false by_] (hrun:Run Γ ops K rest (⟨⟨[(d,⟨c,false⟩)],[]⟩,gs++(ors x),[],[]⟩::acc) ⟨[(d,⟨c,false⟩)]++S,[]++O⟩) (hx:evq S x=some (.iptr cells):=by rfl) (hc:cells[0]?=some c:=by rfl) (hl:c.labs=[]:=by rfl) (hd:Nat.blt d N=true:=by rfl) (hgd:gd N ops S true g=some gs:=by rfl):Run Γ ops K (⟨some d,.load t x,ty,pos,af,g⟩::rest) acc ⟨S,O⟩:=.op (pN hx hc hl hd) hgd rfl hrun
theorem qZ {x:Operand} {t n by_ l k:Nat} {cells:List PV} {dp bx:Bool} {c:PV} [ht:TI P t n false by_] (hrun:Run Γ ops K rest (⟨⟨[(d,⟨c,false⟩)],[]⟩,gs++(ors x),[l],[]⟩::acc) ⟨[(d,⟨c,false⟩)]++S,[]++O⟩) (hx:evq S x=some (.ptr l k):=by rfl) (ho:loq O l=some ⟨cells,dp,bx⟩:=by rfl) (hc:cells[k]?=some c:=by rfl) (hl:(bx||mI c)=true:=by rfl) (hd:Nat.blt d N=true:=by rfl) (hgd:gd N ops S true g=some gs:=by rfl):Run Γ ops K (⟨some d,.load t x,ty,pos,af,g⟩::rest) acc ⟨S,O⟩:=.op (aG hx ho hc (lN hl) hd) hgd rfl hrun
theorem pW {x:Operand} {t n by_ l k:Nat} {cells vs:List PV} {dp bx:Bool} [ht:TI P t n true by_] (hrun:Run Γ ops K rest (⟨⟨[(d,⟨.agg vs,false⟩)],[]⟩,gs++(ors x),[l],[]⟩::acc) ⟨[(d,⟨.agg vs,false⟩)]++S,[]++O⟩) (hx:evq S x=some (.ptr l k):=by rfl) (ho:loq O l=some ⟨cells,dp,bx⟩:=by rfl) (hc:(cells.drop k).take n=vs:=by first | exact aT rfl | rfl) (hn:Nat.beq vs.length n=true:=by rfl) (hn0:n≠0:=by intro h;cases h) (hl:(bx||eA vs)=true:=by rfl) (hd:Nat.blt d N=true:=by rfl) (hgd:gd N ops S true g=some gs:=by rfl):Run Γ ops K (⟨some d,.load t x,ty,pos,af,g⟩::rest) acc ⟨S,O⟩:=.op (cQ hx ho hc hn hn0 (by cases bx with | true=>exact .inl rfl | false=>exact .inr (by simpa using hl)) hd) hgd rfl hrun
theorem qA {x:Operand} {vs:List PV} {i:Nat} {p:PV} (hrun:Run Γ ops K rest (⟨⟨[(d,⟨p,false⟩)],[]⟩,gs++(ors x),[],[]⟩::acc) ⟨[(d,⟨p,false⟩)]++S,[]++O⟩) (hx:evq S x=some (.tup vs):=by rfl) (hp:vs[i]?=some p:=by rfl) (hd:Nat.blt d N=true:=by rfl) (hgd:gd N ops S true g=some gs:=by rfl):Run Γ ops K (⟨some d,.extract x i,ty,pos,af,g⟩::rest) acc ⟨S,O⟩:=.op (qG hx hp hd) hgd rfl hrun
theorem pX {x:Operand} {t n by_:Nat} {cells vs:List PV} [ht:TI P t n true by_] (hrun:Run Γ ops K rest (⟨⟨[(d,⟨.agg vs,false⟩)],[]⟩,gs++(ors x),[],[]⟩::acc) ⟨[(d,⟨.agg vs,false⟩)]++S,[]++O⟩) (hx:evq S x=some (.iptr cells):=by rfl) (hc:cells.take n=vs:=by first | exact iN rfl | rfl) (hn:Nat.beq vs.length n=true:=by rfl) (hn0:n≠0:=by intro h;cases h) (hl:eA vs=true:=by rfl) (hd:Nat.blt d N=true:=by rfl) (hgd:gd N ops S true g=some gs:=by rfl):Run Γ ops K (⟨some d,.load t x,ty,pos,af,g⟩::rest) acc ⟨S,O⟩:=.op (qE hx hc hn hn0 hl hd) hgd rfl hrun
theorem qQ  (hrun:Run Γ ops K rest (⟨⟨[(d,⟨.sc (.int k r),false⟩)],[]⟩,gs++(ors x++ors y),[],[]⟩::acc) ⟨[(d,⟨.sc (.int k r),false⟩)]++S,[]++O⟩) (hx:evq S x=some (.sc (.int k m)):=by rfl) (hy:evq S y=some (.sc (.int k n)):=by rfl) (hn:n≠0:=by intro h;cases h) (hr:m.tmod n=r:=by rfl) (hd:Nat.blt d N=true:=by rfl) (hgd:gd N ops S true g=some gs:=by rfl):Run Γ ops K (⟨some d,.binOp .rem u x y u',ty,pos,af,g⟩::rest) acc ⟨S,O⟩:=.op (oP hx hy hn hr hd) hgd rfl hrun
theorem rC  (hrun:Run Γ ops K rest (⟨⟨[(d,⟨.sc (.bool (decide (n≤m))),false⟩)],[]⟩,gs++(ors x++ors y),[],[]⟩::acc) ⟨[(d,⟨.sc (.bool (decide (n≤m))),false⟩)]++S,[]++O⟩) (hx:evq S x=some (.sc (.int k m)):=by rfl) (hy:evq S y=some (.sc (.int k n)):=by rfl) (hd:Nat.blt d N=true:=by rfl) (hgd:gd N ops S true g=some gs:=by rfl):Run Γ ops K (⟨some d,.binOp .geq u x y u',ty,pos,af,g⟩::rest) acc ⟨S,O⟩:=.op (pO hx hy hd) hgd rfl hrun
theorem qR  (hrun:Run Γ ops K rest (⟨⟨[(d,⟨.sc (.int k r),false⟩)],[]⟩,gs++(ors x++ors y),[],[]⟩::acc) ⟨[(d,⟨.sc (.int k r),false⟩)]++S,[]++O⟩) (hx:evq S x=some (.sc (.int k m)):=by rfl) (hy:evq S y=some (.sc (.int k n)):=by rfl) (hn:n≠0:=by intro h;cases h) (hr:k.wrap (m.tdiv n)=r:=by rfl) (hd:Nat.blt d N=true:=by rfl) (hgd:gd N ops S true g=some gs:=by rfl):Run Γ ops K (⟨some d,.binOp .quo u x y u',ty,pos,af,g⟩::rest) acc ⟨S,O⟩:=.op (nG hx hy hn hr hd) hgd rfl hrun
theorem qU  (hrun:Run Γ ops K rest (⟨⟨[(d,⟨.sc (.int k r),false⟩)],[]⟩,gs++(ors x++ors y),[],[]⟩::acc) ⟨[(d,⟨.sc (.int k r),false⟩)]++S,[]++O⟩) (hx:evq S x=some (.sc (.int k m)):=by rfl) (hy:evq S y=some (.sc (.int k n)):=by rfl) (hr:k.wrap (m*n)=r:=by rfl) (hd:Nat.blt d N=true:=by rfl) (hgd:gd N ops S true g=some gs:=by rfl):Run Γ ops K (⟨some d,.binOp .mul u x y u',ty,pos,af,g⟩::rest) acc ⟨S,O⟩:=.op (rH hx hy hr hd) hgd rfl hrun
theorem qB {x:Operand} {src dst:TypeId} {k q:IntKind} {n r:Int} {ds:TypeDesc} [hs:UT P src ds] [ht:UT P dst (.int q)] (hrun:Run Γ ops K rest (⟨⟨[(d,⟨.sc (.int q r),false⟩)],[]⟩,gs++(ors x),[],[]⟩::acc) ⟨[(d,⟨.sc (.int q r),false⟩)]++S,[]++O⟩) (hx:evq S x=some (.sc (.int k n)):=by rfl) (hr:q.wrap n=r:=by rfl) (hd:Nat.blt d N=true:=by rfl) (hgd:gd N ops S true g=some gs:=by rfl):Run Γ ops K (⟨some d,.convert src dst x,ty,pos,af,g⟩::rest) acc ⟨S,O⟩:=.op (jO hx hr hd) hgd rfl hrun
theorem av {x:Operand} {p:PV} {m:List Nat} {xs:List Operand} {ps:List PV} (h:ArgsV S O xs ps m) (hx:evq S x=some p:=by rfl) (hl:p.labs=[]:=by rfl):ArgsV S O (x::xs) (p::ps) ([]++m):=.cons (.val hx hl) h
theorem ar {x:Operand} {l s n:Nat} {cells:List PV} {dp:Bool} {m:List Nat} {xs:List Operand} {ps:List PV} (h:ArgsV S O xs ps m) (hx:evq S x=some (.ref l s 0 n):=by rfl) (ho:loq O l=some ⟨cells,dp,false⟩:=by rfl) (hl:cells.length≤n*s:=by first | exact Nat.le_of_eq (lT (fun _=>rfl)) | exact Nat.le_of_ble_eq_true rfl):ArgsV S O (x::xs) (.sl n cells::ps) ([l]++m):=.cons (.ref hx ho hl) h
theorem bs {pl:List (Nat × Nat)} {dp:Bool} {i off n:Nat} {x:Operand} {p:PV} {r:List (Nat × Operand)} {cells cells':List PV} {ks:List Nat} (h1:evq S x=some p:=by rfl) (h2:cW p=true:=by rfl) (h3:p.labs=[]:=by rfl) (h4:stB [] false p=true:=by rfl) (h5:pl[i]?=some (off,n):=by rfl) (h6:Nat.beq (aJ p).length n=true:=by rfl) (h7:Nat.ble (off+n) cells.length=true:=by rfl) (h:BuildV S pl dp r (cells.take off++aJ p++cells.drop (off+n)) cells' ks):BuildV S pl dp ((i,x)::r) cells cells' ks:=.sc h1 h2 h3 h4 h5 h6 h7 h
end
end Go.Ev
