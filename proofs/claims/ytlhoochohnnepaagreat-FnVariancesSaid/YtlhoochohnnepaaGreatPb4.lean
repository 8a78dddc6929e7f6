/- Parts PT2, VB, VC, PT3, VD, VE, PT4, VF, VG, VH, VI, VJ, VK, VL, VS, VP, VT, VU, VW, DA, VX, VY, VZ, CA, CB, DB, DC, DD, DE, DF, DG, DH, VM, VN, VO, WA, WB, WC. -/
import Derived.Test.YtlhoochohnnepaaGreatPb3
import Derived.Test.YtlhoochohnnepaaGreatPb1
set_option linter.all false
set_option maxHeartbeats 4000000
set_option maxRecDepth 20000
/- Deleting a link, both programs, and the law. -/
namespace Go.Ev
theorem aJt {s u:List Link}{e:Rat}(h:jnP s=some (u,e)):fE u=fE s:=by
 refine aAt (aAz u) (aAz s) fun x=>?_
 have h1:∀ (a b:List Link),(∀ x y,pr a x y->pr b x y)->(∃ l∈a,l.fA=x\/l.fB=x)->∃ l∈b,l.fA=x\/l.fB=x:=by
  rintro a b hab ⟨l,hl,c⟩
  obtain⟨m,hm,e1,e2⟩:=hab l.fA l.fB ⟨l,hl,rfl,rfl⟩
  exact⟨m,hm,by rw[e1,e2];exact c⟩
 rw[aAy,aAy]
 exact⟨fun⟨a,b⟩=>⟨a,h1 u s (fun x y=>(aOF h x y).1) b⟩,fun⟨a,b⟩=>⟨a,h1 s u (fun x y=>(aOF h x y).2) b⟩⟩
/- Trees that are drawn. -/
theorem LinkL.tie {n:Int}{l:List QL}(h:LinkL n l){o:List Int}(nd:o.Nodup)(hm:∀ u,u∈o↔u∈fE (l.map QL.toL)):Tie l o:=by
 refine aNv h.each (by have:=h.len;omega) h.all nd fun u=>?_
 rw[hm,aFV]
 constructor
 · rintro⟨h1,z,hz,ht⟩
   obtain⟨y,hy,rfl⟩:=aTu.1 hz
   exact⟨h1.1,y,hy,ht⟩
 · rintro⟨h1,y,hy,ht⟩
   have:=(h.each y hy).1.1
   exact⟨by omega,y.toL,aUm hy,ht⟩
theorem LinkL.tie0 {n:Int}{l:List QL}(h:LinkL n l):Tie l (fE (l.map QL.toL)):=h.tie (qH _) fun _=>Iff.rfl
theorem Base.valid {l:List QL}{o:List Int}(hb:Base l o):∀ x∈l.map QL.toL,ValidL x:=by
 intro x hx
 have:=hb.join.1
 exact(aBz this).1 x hx
theorem Tie.sz {l:List QL}{o:List Int}(h:Tie l o):aL (l.map QL.toL)<=2000:=by
 have h1:=aBQ h.base.valid
 rw[aTs]at h1
 have:=h.len
 omega
theorem Tie.join {l:List QL}{o:List Int}(h:Tie l o):∃ s e,jnP (l.map QL.toL)=some (s,e)/\LSet s/\fE s=fE (l.map QL.toL):=by
 have h1:=h.base.join.1
 exact⟨_,_,h1,(aBz h1).2.1,aJt h1⟩
theorem aOc (c:l01Cur)(s:List Int)(hs:s.length<=9):∀ (m k:Nat) (a:List Int) (fi fh:Int),m+k=s.length->sY ⟨c.fb,fi,fh⟩->a.Perm (s.take k)->
 ∃ (a':List Int) (fi' fh':Int),lp (kV c s) ((k:Int),a,fi,fh)=some (a',fi',fh')/\sY ⟨c.fb,fi',fh'⟩/\a'.Perm s:=by
 intro m
 induction m with
 | zero =>
  intro k a fi fh hm hc hp
  refine⟨a,fi,fh,aK ?_,hc,by rw[aT1 (by omega)]at hp;exact hp⟩
  unfold kV
  simp only[]
  rw[aTc (by omega)]
 | succ m ih =>
  intro k a fi fh hm hc hp
  have hlt:k<s.length:=by omega
  have hl:a.length=k:=by rw[hp.length_eq,aTS];omega
  obtain⟨r,a1,b1,c1,d1⟩:=sA ⟨c.fb,fi,fh⟩ ((k:Int)+1) hc (by omega)
  have e1:sub a 0 r.1=some (a.take r.1.toNat):=by rw[qC _ _ _ (by omega)];simp
  have e2:sub a r.1 (a.length:Int)=some (a.drop r.1.toNat):=by
   rw[qC _ _ _ (by omega),aT1 (by rw[aUr];omega)]
  have t1:(a.take r.1.toNat).length<=9:=by rw[aTS];omega
  have t2:(a.drop r.1.toNat).length<=9:=by rw[aUr];omega
  have st:kV c s ((k:Int),a,fi,fh)=some (.inl (((k+1:Nat):Int),a.take r.1.toNat++[s[k]]++a.drop r.1.toNat,r.2.fi,r.2.fh)):=by
   unfold kV
   simp only[]
   rw[aTd (by omega),aN hlt]
   simp only[aTb,aJ]
   rw[wi (n:=(a.length:Int)+1) (by omega),hl,a1]
   simp only[aTb]
   rw[e1]
   simp only[aTb,aTi,aUq,aTC]
   rw[aM (by omega)]
   simp only[aTb,aJ]
   rw[aM (by omega)]
   simp only[aTb,aJ]
   rw[hl]at e2
   rw[e2]
   simp only[aTb]
   rw[aM (by rw[aTF,aTY];omega),wi (n:=(k:Int)+1) (by omega)]
   rfl
  rw[aQ st]
  refine ih (k+1) _ _ _ (by omega) (zE c1 d1) ?_
  rw[aVJ,aTl hlt]
  have p1:(a.take r.1.toNat++[s[k]]++a.drop r.1.toNat).Perm (a++[s[k]]):=by
   rw[aTx]
   refine(List.Perm.append_left _ List.perm_append_comm).trans ?_
   rw[<- aTx,aT6]
  exact p1.trans (hp.append_right _)
theorem aOz (c:l01Cur)(h:sY c):∃ (n:Int) (l:List QL) (o:List Int) (c':l01Cur),tF c=some (l.map QL.toL,o,c')/\sY c'/\c'.fb=c.fb/\LinkL n l/\(1<=n/\n<=4)/\Tie l o:=by
 obtain⟨r,a1,b1,c1,d1⟩:=sA ⟨c.fb,c.fi,c.fh⟩ 4 h (by omega)
 obtain⟨l,c2,a2,o2,f2,hl⟩:=aRv ⟨c.fb,r.2.fi,r.2.fh⟩ (1+r.1) (zE c1 d1) (by omega)
 obtain⟨s,e,j1,j2,j3⟩:=hl.tie0.join
 have hz:=hl.tie0.sz
 have js:=(wL (l.map QL.toL) (by omega)).1
 rw[j1]at js
 have ns:=aHU j2
 rw[j3]at ns
 obtain⟨o,f3,g3,a3,o3,p3⟩:=aOc c (fE (l.map QL.toL)) (xL _) _ 0 [] c2.fi c2.fh (aTX _) (zE o2 f2) (by simp)
 refine⟨1+r.1,l,o,⟨c.fb,f3,g3⟩,?_,o3,rfl,hl,by omega,hl.tie (p3.nodup_iff.2 (qH _)) fun u=>p3.mem_iff⟩
 unfold tF
 rw[a1];simp only[aTb]
 rw[wi (n:=1+r.1) (by omega),a2];simp only[aTb]
 rw[js];simp only[aTb,pk]
 rw[ns];simp only[aTb]
 rw[show((0:Nat):Int)=0 from rfl]at a3
 rw[a3]
 rfl
def mF (l:List QL)(o:List Int):Tree:=⟨(bX l o o []).map NQ.toN⟩
theorem aRb (code:List Int)(h:code.length<=1048576):∃ (n:Int) (l:List QL) (o:List Int),rE code=some (mF l o)/\LinkL n l/\(1<=n/\n<=4)/\Tie l o:=by
 obtain⟨c,e1,c1,f1⟩:=aSr code h
 obtain⟨n,l,o,c',e2,c2,f2,hl,hn,ht⟩:=aOz ⟨c.fb,c.fi,c.fh⟩ c1
 refine⟨n,l,o,?_,hl,hn,ht⟩
 have hz:=ht.sz
 have ho:o.length<=5:=ht.base.len
 have bq:=(aQD (l.map QL.toL) o (by omega) (by omega)).1
 rw[ht.build]at bq
 unfold rE wU
 rw[e1];simp only[aTb]
 rw[e2];simp only[aTb]
 rw[bq]
 rfl
/- The program alone: links, order and test of a tree (the seat lacks the other program's). -/
theorem aP8 (t:Tree)(h:sZ t<=4294967296):qB t=some (fD t.fNodes):=by
 unfold sZ vE at h
 have hl:=nJ cJ t.fNodes
 have hmem:∀ k (hk:k<t.fNodes.length),aL (t.fNodes[k]).fOwn<=4294967296:=fun k hk=>by
  have he:=tB (w:=cJ) (aTv hk)
  have hn:cJ t.fNodes[k]=aL (t.fNodes[k]).fOwn+aX (t.fNodes[k]).fCond+aL (t.fNodes[k]).fMessages+bG (t.fNodes[k]).fEnergy:=rfl
  omega
 have hln:∀ k (hk:k<t.fNodes.length),(fD (t.fNodes.take k)).length+((t.fNodes[k]).fOwn).length<=4294967296:=fun k hk=>by
  have:=aKL t.fNodes h (k+1)
  rw[aEh _ _ hk,aTF]at this;omega
 have aux:∀ (step:(Int×(List Link))->Option ((Int×(List Link)) ⊕ (List Link))),(∀ k (hk:k<t.fNodes.length),step ((k:Int),fD (t.fNodes.take k))=some (.inl (((k+1:Nat):Int),fD (t.fNodes.take (k+1)))))->step ((t.fNodes.length:Int),fD (t.fNodes.take t.fNodes.length))=some (.inr (fD t.fNodes))->lp step (0,[])=some (fD t.fNodes):=by
  intro step h1 h2
  have main:∀ m k:Nat,m+k=t.fNodes.length->lp step ((k:Int),fD (t.fNodes.take k))=some (fD t.fNodes):=by
   intro m
   induction m with
   | zero =>
    intro k hk
    have:k=t.fNodes.length:=by omega
    subst this
    exact aK h2
   | succ m ih =>
    intro k hk
    rw[aQ (h1 k (by omega))]
    exact ih (k+1) (by omega)
  exact main t.fNodes.length 0 (by omega)
 unfold qB
 rw[aux (lN t) (fun k hk=>by
  have:=hmem k hk
  have:=hln k hk
  unfold lN
  simp only[]
  rw[aTd (by omega),aN hk]
  simp only[aTb]
  rw[qP _ (by omega)]
  simp only[aTb]
  rw[aM (by omega),aEh _ _ hk,wi1 (by omega)];rfl) (by unfold lN;simp only[];rw[aTc (by omega),aUz])]
 rfl
/- Inserting all links, both programs, and the law. -/
theorem aI9 (a:Int)(c:Nat):∀ r:List Int,r.Nodup->(r.map (fun v=>if a=v then c else 0)).sum<=c
 | [],_=>aT9 _
 | v::r,h=>by
  rw[aUe]at h
  rw[aTo,aVF]
  by_cases e:a=v
  · rw[aTd e]
    have:∀ l:List Int,v∉l->(l.map (fun v=>if a=v then c else 0)).sum=0:=by
     intro l
     induction l with
     | nil=>intro _;rfl
     | cons x l ih =>
      intro hx
      simp only[aTf,not_or]at hx
      rw[aTo,aVF,ih hx.2,aTc (fun e'=>hx.1 (by rw[<- e,e']))]
    rw[this r h.1];omega
  · rw[aTc e]
    have:=aI9 a c r h.2
    omega
theorem aJs (o:List Int)(r:List Int)(hr:r.Nodup):∀ s:List Link,(r.map (fun v=>aL (s.filter (pQ o v)))).sum<=aL s
 | []=>by
  have:∀ l:List Int,(l.map (fun v=>aL (([]:List Link).filter (pQ o v)))).sum=0:=by
   intro l
   induction l with
   | nil=>rfl
   | cons x l ih=>rw[aTo,aVF,ih];rfl
  rw[this];exact aT9 _
 | x::s=>by
  have ih:=aJs o r hr s
  have h1:=aI9 (aU o [x.fA,x.fB]) (bY x+1) r hr
  have e:∀ l:List Int,(l.map (fun v=>aL ((x::s).filter (pQ o v)))).sum=(l.map (fun v=>if aU o [x.fA,x.fB]=v then bY x+1 else 0)).sum+(l.map (fun v=>aL (s.filter (pQ o v)))).sum:=by
   intro l
   induction l with
   | nil=>rfl
   | cons v l ih =>
    simp only[aTo,aVF,ih]
    have:aL ((x::s).filter (pQ o v))=(if aU o [x.fA,x.fB]=v then bY x+1 else 0)+aL (s.filter (pQ o v)):=by
     rw[aTP]
     unfold pQ
     by_cases c:aU o [x.fA,x.fB]=v
     · rw[aTd (by simpa using c),aTd c];unfold aL;rw[nY]
     · rw[aTc (by simpa using c),aTc c];omega
    omega
  rw[e]
  have:aL (x::s)=bY x+1+aL s:=by unfold aL;rw[nY]
  omega
theorem aAw:∀ b:List TreeNode,aL (fD b)=(b.map (fun n=>aL n.fOwn)).sum
 | []=>rfl
 | n::b=>by
  have e:fD (n::b)=n.fOwn++fD b:=by simp[fD]
  rw[e,aLF,aAw b,aTo,aVF]
theorem aNt {s:List Link}{o:List Int}{b:List TreeNode}(hn:o.Nodup)(h:vN s o o []=some b):aL (fD b)<=aL s:=by
 obtain⟨h1,h2⟩:=aBd o [] b (by simp) h
 simp only[aT8,aTi]at h2
 rw[aAw]
 have e:b.map (fun n=>aL n.fOwn)=b.map (fun n=>aL (s.filter (pQ o n.fNode))):=aVW fun n hn=>by rw[(h1 n hn).2.1]
 have e2:b.map (fun n=>aL (s.filter (pQ o n.fNode)))=o.map (fun v=>aL (s.filter (pQ o v))):=by rw[<- h2,aUK];rfl
 rw[e,e2]
 exact aJs o o hn s
theorem aI7 {s:List Link}{o:List Int}:∀ {b:List TreeNode},(∀ n∈b,NodeOk s o n)->szL cJ b<=aL (fD b)+51425*b.length
 | [],_=>aT9 _
 | n::b,h=>by
  have ih:=aI7 (b:=b) (fun m hm=>h m (by simp[hm]))
  have hn:=h n (by simp)
  have h1:=hn.1.sz
  have h3:=nF (.inl hn.2.2.2.1)
  have h4:=hn.2.2.1
  have e:aL (fD (n::b))=aL n.fOwn+aL (fD b):=by rw[aAw,aAw,aTo,aVF]
  have e2:cJ n=aL n.fOwn+aX n.fCond+aL n.fMessages+bG n.fEnergy:=rfl
  rw[nY,aTG,e,e2]
  omega
theorem aLg {s:List Link}{o:List Int}{u:Tree}(h:zQ s o=some u):aL (fD u.fNodes)<=aL s/\sZ u<=aL s+462825:=by
 unfold zQ at h
 cases hj:jnP s with
 | none=>rw[hj]at h;cases h
 | some x =>
  rw[hj,aTb]at h
  by_cases c:isOrd x.1 o
  · rw[aTd c]at h
    cases g:vN s o o []with
    | none=>rw[g]at h;cases h
    | some b =>
     rw[g]at h
     obtain rfl:=Option.some.inj h
     have h1:=aNt c.1 g
     obtain⟨k1,k2⟩:=aBd o [] b (by simp) g
     have h2:=aI7 k1
     have hl:b.length=o.length:=by have:=congrArg List.length k2;simpa using this
     have h9:=(aGf c).1
     refine⟨h1,?_⟩
     show szL cJ b<=_
     have:51425*b.length<=51425*9:=aTK (aTn _) (by omega)
     omega
  · rw[aTc c]at h;cases h
/- What is built on tied links is a tree. -/
theorem aJW {α:Type}{f g:Int->List α}:∀ {r:List Int},(∀ u∈r,f u=g u)->r.flatMap f=r.flatMap g
 | [],_=>rfl
 | u::r,h=>by rw[aTO,aTO,h u (by simp),aJW fun w hw=>h w (by simp[hw])]
theorem aHr {α:Type}(f:α->Int):∀ (o:List Int) (l:List α),o.Nodup->(∀ x∈l,f x∈o)->(o.flatMap fun v=>l.filter fun x=>decide (f x=v)).Perm l
 | [],l,_,h=>by
  cases l with
  | nil=>exact List.Perm.refl _
  | cons x l=>exact absurd (h x (by simp)) (by simp)
 | v::r,l,hn,h=>by
  rw[aUe]at hn
  rw[aTO]
  have e:(r.flatMap fun u=>l.filter fun x=>decide (f x=u))=r.flatMap fun u=>(l.filter fun x=>!decide (f x=v)).filter fun x=>decide (f x=u):=by
   refine aJW fun u hu=>?_
   rw[aUv]
   refine aUO fun x _=>?_
   by_cases c:f x=u
   · have:f x≠v:=fun e=>hn.1 (by rw[<- e,c];exact hu)
     rw[aTg c,aTe this];rfl
   · rw[aTe c];rfl
  rw[e]
  have ih:=aHr f r (l.filter fun x=>!decide (f x=v)) hn.2 (fun x hx=>by
   rw[aTI]at hx
   have h1:=h x hx.1
   have h2:f x≠v:=by simpa using hx.2
   exact(aTf.1 h1).resolve_left h2)
  exact(List.Perm.append_left _ ih).trans (List.filter_append_perm _ l)
theorem aEg {α:Type}(f:α->Int)(l:List α)(v:Int):∀ o:List Int,o.Nodup->v∈o->((o.flatMap fun u=>l.filter fun x=>decide (f x=u)).filter fun x=>decide (f x=v))=l.filter fun x=>decide (f x=v)
 | w::r,hn,hv=>by
  rw[aUe]at hn
  rw[aTO,aVj]
  have none:∀ s:List Int,v∉s->((s.flatMap fun u=>l.filter fun x=>decide (f x=u)).filter fun x=>decide (f x=v))=[]:=by
   intro s hs
   rw[List.filter_eq_nil_iff]
   intro x hx
   obtain⟨u,hu,hx⟩:=aU0.1 hx
   have:=aTM (aTI.1 hx).2
   intro e
   have:=aTM e
   have e3:v=u:=by omega
   exact hs (e3▸hu)
  by_cases c:v=w
  · subst c
    rw[none r hn.1,aUf,aUv]
    refine aUO fun x _=>?_
    simp
  · have e:((l.filter fun x=>decide (f x=w)).filter fun x=>decide (f x=v))=[]:=by
     rw[List.filter_eq_nil_iff]
     intro x hx e
     have h1:=aTM (aTI.1 hx).2
     have h2:=aTM e
     exact c (by omega)
    rw[e,aTi]
    exact aEg f l v r hn.2 ((aTf.1 hv).resolve_left c)
theorem yL (l:List QL)(o:List Int):∀ (r:List Int) (b:List NQ),(bX l o r b).map (fun n=>n.node)=b.map (fun n=>n.node)++r
 | [],b=>by simp[bX]
 | v::r,b=>by
  rw[bX,yL l o r]
  simp only[aUc,aTo,aT8,aTx,aUk]
  rfl
theorem aHa (l:List QL)(o:List Int):∀ (r:List Int) (b:List NQ),(bX l o r b).flatMap (fun n=>n.own)=b.flatMap (fun n=>n.own)++r.flatMap fun v=>l.filter (pD o v)
 | [],b=>by simp[bX]
 | v::r,b=>by
  rw[bX,aHa l o r,aUX,aTO,aUM,aUf,aTO,aTx]
  rfl
theorem aD9 {l l':List QL}{o:List Int}:∀ (r:List Int) (b:List NQ),(∀ v∈r,l'.filter (pD o v)=l.filter (pD o v))->bX l' o r b=bX l o r b
 | [],b,_=>rfl
 | v::r,b,h=>by
  have e:nxt l' o v b=nxt l o v b:=by unfold nxt;rw[h v (by simp)]
  rw[bX,bX,e]
  exact aD9 r _ fun u hu=>h u (by simp[hu])
def gS (l:List QL)(o:List Int):List QL:=o.flatMap fun v=>l.filter (pD o v)
theorem Tie.owner {l:List QL}{o:List Int}(h:Tie l o):∀ x∈l,aU o [x.a,x.b]∈o:=by
 intro x hx
 have hb:=h.base
 have hbm:x.b∈o:=(h.mem _).2 ⟨by have:=(h.lk x hx).1;omega,x,hx,.inr rfl⟩
 rcases aDs (s:=[x.a,x.b]) (fun u hu=>(hb.h1 u hu).1)with⟨_,h4⟩ | ⟨p,v,r,e,h2,h3,h4⟩
 · exact absurd (by simp) (h4 _ hbm)
 · rw[h2,e];simp
theorem Tie.inPerm {l:List QL}{o:List Int}(h:Tie l o):(gS l o).Perm l:=aHr (fun x:QL=>aU o [x.a,x.b]) o l h.nd h.owner
theorem Tie.inTie {l:List QL}{o:List Int}(h:Tie l o):Tie (gS l o) o:=h.perm h.inPerm (List.Perm.refl _)
theorem Tie.inTree {l:List QL}{o:List Int}(h:Tie l o):mF (gS l o) o=mF l o:=by
 unfold mF
 have e:bX (gS l o) o o []=bX l o o []:=aD9 o [] fun v hv=>aEg (fun x:QL=>aU o [x.a,x.b]) l v o h.nd hv
 rw[e]
theorem aOb:∀ b:List NQ,fD (b.map NQ.toN)=(b.flatMap fun n=>n.own).map QL.toL:=by
 intro b
 unfold fD
 induction b with
 | nil=>rfl
 | cons n b ih =>
  rw[aTO,aUc,<- ih];rfl
theorem aFc (l:List QL)(o:List Int):fD (mF l o).fNodes=(gS l o).map QL.toL:=by
 unfold mF
 simp only[]
 rw[aOb,aHa,aUM,aTi]
 rfl
theorem aKr (l:List QL)(o:List Int):aIv (mF l o)=o:=by
 unfold aIv mF
 simp only[aUK]
 have:=yL l o o []
 rw[aT8,aTi]at this
 exact this
theorem Tie.isTree {l:List QL}{o:List Int}(h:Tie l o):aEY (mF l o):=by
 unfold aEY
 rw[aFc,aKr,h.inTie.build]
 exact congrArg some h.inTree
theorem Tie.tsz {l:List QL}{o:List Int}(h:Tie l o):sZ (mF l o)<=470000:=by
 have hz:=h.sz
 have:=(aLg h.build).2
 unfold mF
 omega
/- The law of the paths of a tree. -/
/- The cliques of a tree, both programs, and the law. -/
theorem aKP {o:List Int}{v:Int}{own:List Link}{b:List TreeNode}{n:TreeNode}(h:rJ o v own b=some n):bA n.fCond=some true:=by
 unfold rJ at h
 cases e1:jnP (own++aAD v b)with
 | none=>rw[e1]at h;cases h
 | some u =>
  rw[e1,aTb]at h
  cases e2:aDL v u.1 with
  | none=>rw[e2]at h;cases h
  | some w =>
   obtain⟨c,m,f⟩:=w
   rw[e2,aTb]at h
   have hc:bA c=some true:=by
    unfold aDL at e2
    cases e3:yC v u.1 with
    | none=>rw[e3]at e2;cases e2
    | some x =>
     rw[e3,aTb]at e2
     have ex:x.1=c:=by
      cases e4:jnP (yS v u.1++x.2)with
      | none=>rw[e4]at e2;cases e2
      | some y=>rw[e4]at e2;exact congrArg Prod.fst (Option.some.inj e2)
     unfold yC at e3
     split at e3
     · rename_i hh
       cases e3
       rw[<- ex];exact hh.2.1
     · cases e3
   split at h
   · cases h;exact hc
   · cases h
theorem aHc {Q:TreeNode->Prop}{s:List Link}{o:List Int}(hQ:∀ v b n,rJ o v (s.filter (pQ o v)) b=some n->Q n):∀ (r:List Int) (b b':List TreeNode),(∀ n∈b,Q n)->vN s o r b=some b'->∀ n∈b',Q n
 | [],b,b',h,e=>by cases e;exact h
 | v::r,b,b',h,e=>by
  rw[vN]at e
  cases h1:rJ o v (s.filter (pQ o v)) b with
  | none=>rw[h1]at e;cases e
  | some n =>
   rw[h1,aTb]at e
   exact aHc hQ r (b++[n]) b' (fun m hm=>by
    rcases aTj.1 hm with hm | hm
    · exact h m hm
    · rw[aTU.1 hm];exact hQ _ _ _ h1) e
theorem aFb {t:Tree}(ht:aEY t):t.fNodes.length<=9/\∀ n∈t.fNodes,1<=n.fNode/\bA n.fCond=some true/\aX n.fCond<=20000:=by
 unfold aEY zQ at ht
 cases hj:jnP (fD t.fNodes)with
 | none=>rw[hj]at ht;cases ht
 | some x =>
  rw[hj,aTb]at ht
  by_cases c:isOrd x.1 (aIv t)
  · rw[aTd c]at ht
    cases g:vN (fD t.fNodes) (aIv t) (aIv t) []with
    | none=>rw[g]at ht;cases ht
    | some b =>
     rw[g]at ht
     have e:=Option.some.inj ht
     obtain⟨k1,k2⟩:=aBd (aIv t) [] b (by simp) g
     have k3:=aHc (Q:=fun n=>bA n.fCond=some true) (fun v b n h=>aKP h) (aIv t) [] b (by simp) g
     have eb:b=t.fNodes:=by rw[<- e]
     subst eb
     obtain⟨l1,l2⟩:=aGf c
     refine⟨by unfold aIv at l1;rwa [aTs]at l1,fun n hn=>⟨l2 _ (aTu.2 ⟨n,hn,rfl⟩),k3 n hn,(k1 n hn).2.2.1⟩⟩
  · rw[aTc c]at ht;cases ht
/- Nodes that hang on nothing: a tree is not built. -/
/- A link that hangs on nothing cannot be inserted. -/
/- Inserting a link that hangs on the tree. -/
/- Nodes that an inserted link does not change. -/
theorem xD (l:List QL)(o:List Int)(v:Int):∀ (p:List Int) (b:List NQ),bX l o (p++[v]) b=bX l o p b++[nxt l o v (bX l o p b)]
 | [],b=>rfl
 | u::p,b=>by rw[aTm,bX,bX,xD l o v p]
theorem TInv.at {l:List QL}{o:List Int}(hb:Base l o)(hg:Grounded l o):∀ (n:Nat) (p r:List Int),p.length=n->o=p++r->TInv l o p r (bX l o p [])
 | 0,p,r,hn,e=>by
  have:p=[]:=aTq.1 hn
  subst this
  rw[aTi]at e
  subst e
  exact TInv.start hb hg
 | n+1,p,r,hn,e=>by
  rcases aVq p with rfl | ⟨q,v,rfl⟩
  · simp at hn
  · rw[aVr]at hn e ⊢
    have ih:=TInv.at hb hg n q (v::r) (by simpa using hn) (by rw[e,aTx];rfl)
    rw[xD]
    exact(ih.next hb).1
/- Nodes outside a closed set stay as they are. -/
section
variable {l:List QL}{o:List Int}{k:QL}{L:Int->Prop}
end
/- Parents lie on the path. -/
/- What an inserted link changes lies in the list. -/
/- Energies at positions: what joining and eliminating keep. -/
def eP (p q:Int->Q)(x:QL):Q:=x.w*sqQ (p x.b-p x.a-x.x) (q x.b-q x.a-x.y)
theorem aRp (p q:Int->Q){k l:QL}(ha:k.a=l.a)(hb:k.b=l.b)(hk:0<k.w)(hl:0<l.w):eP p q (mrg k l)+aFS k l=eP p q k+eP p q l:=by
 have:k.w+l.w≠0:=by grind
 unfold eP mrg aFS sqQ
 simp only[]
 rw[ha,hb]
 generalize p l.b-p l.a=u
 generalize q l.b-q l.a=v
 grind
theorem aMo (p q:Int->Q):∀ (s:List QL) (l:QL),(∀ x∈s,0<x.w)->0<l.w->sm (eP p q) (jS s l).1+(jS s l).2=sm (eP p q) s+eP p q l
 | [],l,_,_=>by simp only[jS,sm];grind
 | k::s,l,hs,hl=>by
  have hk:=hs k (by simp)
  have hr:=fun x hx=>hs x (aTT k hx)
  by_cases c:cU k l
  · have ih:=aMo p q s l hr hl
    rw[sV c,sm,sm]
    simp only[]
    grind
  · by_cases d:cU l k
    · rw[wI c d]
      simp only[sm]
      grind
    · have e:=aRp p q (yN c d).1 (yN c d).2 hk hl
      rw[wH c d]
      simp only[sm]
      grind
theorem aBL (s:List QL)(l:QL)(hs:∀ x∈s,0<x.w)(hl:0<l.w):∀ x∈(jS s l).1,0<x.w :=
 aDz (P:=fun x=>0<x.w) (fun k l _ _ h1 h2=>aLX h1 h2) s l hs hl
theorem aGd (p q:Int->Q):∀ (l s:List QL) (e:Q),(∀ x∈l,0<x.w)->(∀ x∈s,0<x.w)->sm (eP p q) (aR l s e).1+(aR l s e).2=sm (eP p q) s+sm (eP p q) l+e
 | [],s,e,_,_=>by simp only[aR,sm];grind
 | x::l,s,e,hl,hs=>by
  have hx:=hl x (by simp)
  have h1:=aGd p q l (jS s x).1 (e+(jS s x).2) (fun y hy=>hl y (by simp[hy])) (aBL s x hs hx)
  have h2:=aMo p q s x hs hx
  rw[aR,sm]
  grind
theorem aDY:∀ (l s:List QL) (e:Q),(∀ x∈l,0<x.w)->(∀ x∈s,0<x.w)->∀ x∈(aR l s e).1,0<x.w
 | [],s,e,_,hs=>hs
 | x::l,s,e,hl,hs=>by
  rw[aR]
  exact aDY l _ _ (fun y hy=>hl y (by simp[hy])) (aBL s x hs (hl x (by simp)))
theorem aRP (p q:Int->Q){v:Int}{l:QL}(h:aEt v l=true):eP p q (aA9 v l)=eP p q l:=by
 have h:=aTM h
 unfold aA9
 by_cases c:l.a=v
 · rw[aTd c]
   unfold eP sqQ
   simp only[]
   rw[c]
   grind
 · rw[aTc c]
   have hb:l.b=v:=h.resolve_left c
   unfold eP sqQ
   simp only[]
   rw[hb]
theorem aJc (p q:Int->Q)(v:Int):∀ s:List QL,sm (eP p q) s=sm (eP p q) (bL v s)+sm (eP p q) (uF v s)
 | []=>by simp only[bL,uF,aUY,aT8,sm];grind
 | x::s=>by
  have ih:=aJc p q v s
  unfold bL uF at ih ⊢
  rw[aTP,aTP,sm]
  by_cases c:aEt v x=true
  · have e:=aRP p q c
    simp only[c,aUh,aTz,aTk,aTD,aTo,sm];grind
  · simp only[c,Bool.not_eq_true,aTD,aVy,aTz,sm];grind
def app (f:Int->Q)(g:PQ->Q):List PQ->Q
 | []=>0
 | x::r=>x.s*(f x.node+g x)+app f g r
def cdE (p q:Int->Q)(c:CQ):Q:=c.t*sqQ (p c.node-app p (·.x) c.ps) (q c.node-app q (·.y) c.ps)
theorem aQW (f:Int->Q)(t:Q):∀ a:List QL,app f (·.x) (a.map (yI t))=sm (fun y=>y.w*(f y.a+y.x)) a / t
 | []=>by simp only[aT8,app,sm];grind
 | x::a=>by
  rw[aTo,app,sm,aQW f t a]
  unfold yI
  simp only[]
  grind
theorem aQV (f:Int->Q)(t:Q):∀ a:List QL,app f (·.y) (a.map (yI t))=sm (fun y=>y.w*(f y.a+y.y)) a / t
 | []=>by simp only[aT8,app,sm];grind
 | x::a=>by
  rw[aTo,app,sm,aQV f t a]
  unfold yI
  simp only[]
  grind
section
variable (p q:Int->Q)
def s1x (a:List QL):Q:=sm (fun y=>y.w*(p y.a+y.x)) a
def s1y (a:List QL):Q:=sm (fun y=>y.w*(q y.a+y.y)) a
def s2 (a:List QL):Q:=sm (fun y=>y.w*sqQ (p y.a+y.x) (q y.a+y.y)) a
theorem aOw (t:Q)(ht:t≠0)(x:QL):∀ a:List QL,sm (eP p q) (a.map (mlQ t x))*t=x.w*(s2 p q a-2*(p x.a+x.x)*s1x p a-2*(q x.a+x.y)*s1y q a+sqQ (p x.a+x.x) (q x.a+x.y)*sm wt a)
 | []=>by simp only[aT8,sm,s2,s1x,s1y];grind
 | y::a=>by
  have ih:=aOw t ht x a
  unfold s2 s1x s1y at ih ⊢
  rw[aTo,sm,sm,sm,sm,sm,_root_.Rat.add_mul,ih]
  unfold eP mlQ sqQ wt
  simp only[]
  generalize sm (fun y=>y.w*((p y.a+y.x)*(p y.a+y.x)+(q y.a+y.y)*(q y.a+y.y))) a=S2
  generalize sm (fun y=>y.w*(p y.a+y.x)) a=S1
  generalize sm (fun y=>y.w*(q y.a+y.y)) a=S3
  generalize sm (fun l=>l.w) a=S0
  generalize p x.a=px
  generalize p y.a=py
  generalize q x.a=qx
  generalize q y.a=qy
  have e:x.w*y.w / t*((py-px-(x.x-y.x))*(py-px-(x.x-y.x))+(qy-qx-(x.y-y.y))*(qy-qx-(x.y-y.y)))*t=x.w*y.w*((py-px-(x.x-y.x))*(py-px-(x.x-y.x))+(qy-qx-(x.y-y.y))*(qy-qx-(x.y-y.y))):=by grind
  rw[e]
  grind
theorem aL2 (t:Q)(ht:t≠0):∀ a:List QL,sm (eP p q) (mO t a)*t=sm wt a*s2 p q a-s1x p a*s1x p a-s1y q a*s1y q a
 | []=>by simp only[mO,sm,s2,s1x,s1y];grind
 | x::a=>by
  have ih:=aL2 t ht a
  have h:=aOw p q t ht x a
  rw[mO,pP,_root_.Rat.add_mul,ih,h]
  unfold s2 s1x s1y
  rw[sm,sm,sm,sm]
  unfold wt sqQ
  grind
theorem aMl (v:Int):∀ a:List QL,(∀ x∈a,x.b=v)->sm (eP p q) a=sm wt a*sqQ (p v) (q v)-2*p v*s1x p a-2*q v*s1y q a+s2 p q a
 | [],_=>by simp only[sm,s2,s1x,s1y];grind
 | x::a,h=>by
  have ih:=aMl v a (fun y hy=>h y (by simp[hy]))
  have hx:=h x (by simp)
  unfold s2 s1x s1y at ih ⊢
  rw[sm,sm,sm,sm,sm,ih]
  unfold eP wt sqQ
  rw[hx]
  grind
theorem aPL {v:Int}{a:List QL}(hb:∀ x∈a,x.b=v)(h:sm wt a≠0):sm (eP p q) a=cdE p q (rT v a)+sm (eP p q) (mO (sm wt a) a):=by
 have h1:=aL2 p q (sm wt a) h a
 have h2:=aMl p q v a hb
 unfold cdE rT
 simp only[]
 rw[aQW,aQV,h2]
 have e1:sm (fun y=>y.w*(p y.a+y.x)) a=s1x p a:=rfl
 have e2:sm (fun y=>y.w*(q y.a+y.y)) a=s1y q a:=rfl
 rw[e1,e2]
 unfold sqQ
 have h3:sm (eP p q) (mO (sm wt a) a)=(sm wt a*s2 p q a-s1x p a*s1x p a-s1y q a*s1y q a) / sm wt a:=by grind
 rw[h3]
 grind
end
theorem aRO (v:Int)(s:List QL):∀ x∈bL v s,x.b=v:=by
 intro x hx
 obtain⟨l,_,_,rfl⟩:=wC.1 hx
 unfold aA9
 split <;> rfl
theorem aJz {t:Q}(ht:0<t):∀ {a:List QL},(∀ x∈a,0<x.w)->∀ z∈mO t a,0<z.w
 | x::a,h,z,hz=>by
  rw[mO,aTj]at hz
  rcases hz with hz | hz
  · obtain⟨y,hy,rfl⟩:=aTu.1 hz
    have h1:=aVZ (h x (by simp)) (h y (by simp[hy]))
    show 0<x.w*y.w / t
    rw[_root_.Rat.lt_div_iff ht];grind
  · exact aJz ht (fun y hy=>h y (by simp[hy])) z hz
theorem aP2 (p q:Int->Q){l:List QL}{o:List Int}{v:Int}{b:List NQ}(hp:∀ x∈l.filter (pD o v)++oH v b,0<x.w)(hW:0<sm wt (bL v (aR (l.filter (pD o v)++oH v b) [] 0).1)) :
 sm (eP p q) (l.filter (pD o v))+sm (eP p q) (oH v b)=cdE p q (nxt l o v b).cond+(nxt l o v b).enQ+sm (eP p q) (nxt l o v b).msgs:=by
 generalize hF:l.filter (pD o v)++oH v b=F at hp hW
 have h1:=aGd p q F [] 0 hp (by simp)
 have p1:=aDY F [] 0 hp (by simp)
 have h2:=aJc p q v (aR F [] 0).1
 have h3:=aPL p q (aRO v (aR F [] 0).1) (by grind)
 have pa:∀ x∈bL v (aR F [] 0).1,0<x.w:=fun x hx=>by
  obtain⟨y,hy,_,rfl⟩:=wC.1 hx
  rw[aDx];exact p1 y hy
 have pn:∀ x∈iL v (aR F [] 0).1,0<x.w:=fun x hx=>by
  rcases aTj.1 hx with hx | hx
  · exact p1 x (aAe.1 hx).1
  · exact aJz hW pa x hx
 have h4:=aGd p q (iL v (aR F [] 0).1) [] 0 pn (by simp)
 have h5:sm (eP p q) (iL v (aR F [] 0).1)=sm (eP p q) (uF v (aR F [] 0).1)+sm (eP p q) (mO (sm wt (bL v (aR F [] 0).1)) (bL v (aR F [] 0).1)):=pP _ _ _
 have e1:(nxt l o v b).cond=rT v (bL v (aR F [] 0).1):=by rw[<- hF];rfl
 have e2:(nxt l o v b).enQ=(aR F [] 0).2+(aR (iL v (aR F [] 0).1) [] 0).2:=by rw[<- hF];rfl
 have e3:(nxt l o v b).msgs=(aR (iL v (aR F [] 0).1) [] 0).1:=by rw[<- hF];rfl
 have e4:sm (eP p q) F=sm (eP p q) (l.filter (pD o v))+sm (eP p q) (oH v b):=by rw[<- hF];exact pP _ _ _
 rw[e1,e2,e3]
 simp only[sm]at h1 h4
 grind
/- Parents of parents; the nodes of a tree by their place. -/
theorem aHb (l:List QL)(o:List Int)(q:List Int)(b:List NQ):(bX l o q b).length=b.length+q.length:=by
 have:=congrArg List.length (yL l o q b)
 simpa using this
theorem aMQ (l:List QL)(o:List Int):(mF l o).fNodes.length=o.length:=by
 show((bX l o o []).map NQ.toN).length=_
 rw[aTs,aHb];simp
/- The energies of a tree at positions; its solution. -/
def sn (f:NQ->Q):List NQ->Q
 | []=>0
 | x::l=>f x+sn f l
theorem aNF (f:NQ->Q):∀ a b:List NQ,sn f (a++b)=sn f a+sn f b
 | [],b=>by simp only[aTi,sn];grind
 | x::a,b=>by rw[aTm,sn,sn,aNF f a b,_root_.Rat.add_assoc]
theorem aNG (f g:NQ->Q):∀ a:List NQ,sn (fun n=>f n+g n) a=sn f a+sn g a
 | []=>by simp only[sn];grind
 | x::a=>by rw[sn,sn,sn,aNG f g a];grind
theorem aHd {f:NQ->Q}:∀ {l:List NQ},(∀ x∈l,0<=f x)->0<=sn f l
 | [],_=>by simp[sn]
 | x::l,h=>by
  have h1:=h x (by simp)
  have h2:=aHd (f:=f) (l:=l) (fun y hy=>h y (by simp[hy]))
  rw[sn];grind
theorem aNE {f:NQ->Q}:∀ {l:List NQ},(∀ x∈l,0<=f x)->sn f l<=0->∀ x∈l,f x=0
 | y::l,h,h0,x,hx=>by
  have h1:=h y (by simp)
  have h2:=aHd (f:=f) (l:=l) (fun y hy=>h y (by simp[hy]))
  rw[sn]at h0
  rcases aTf.1 hx with rfl | hx
  · grind
  · exact aNE (fun y hy=>h y (by simp[hy])) (by grind) x hx
theorem aPM {f:QL->Q}{a b:List QL}(h:a.Perm b):sm f a=sm f b:=by
 induction h with
 | nil=>rfl
 | cons x _ ih=>rw[sm,sm,ih]
 | swap x y l=>rw[sm,sm,sm,sm];grind
 | trans _ _ i1 i2=>rw[i1,i2]
section
variable {l:List QL}{o pre r:List Int}{v:Int}{b:List NQ}
theorem aOh (hb:Base l o)(hi:TInv l o pre (v::r) b):∀ x∈(nxt l o v b).msgs,x.a∈psN (nxt l o v b).cond/\x.b∈psN (nxt l o v b).cond/\x.a<x.b:=by
 obtain⟨n,h1,hv,v1,v9,hl,nV,hV⟩:=hi.facts hb
 have hinc:=hi.inc hb
 obtain⟨c1,c2,c3,c4,c5,c6,c7⟩:=aOk (order:=o) hinc
 have hsp:=hi.split
 intro x hx
 have hj:=(hinc.join).2.1
 refine⟨?_,?_,(c5 x hx).2.2.2⟩
 all_goals
  obtain⟨y,hy,e1,e2⟩:=pW _ [] 0 x hx
  have hy:=hy.resolve_left (by simp)
  rcases aTj.1 hy with hy | hy
  · obtain⟨m1,m2,m3⟩:=aAe.1 hy
    obtain⟨z,hz,f1,f2⟩:=pW _ [] 0 y m1
    have hz:=hz.resolve_left (by simp)
    rcases aTj.1 hz with hz | hz
    · exfalso
      have:=(aTI.1 hz).2
      rw[hsp]at this
      have:=((aC7 n h1).1 this).1
      omega
    · obtain⟨c,hc,hu2,hz⟩:=xM.1 hz
      obtain⟨_,hk⟩:=hi.kid_ps hb hc hu2
      obtain⟨_,_,p3,_⟩:=hi.ps c hc (by rw[hu2];simp)
      have g1:=(p3 z hz).1
      have g2:=(p3 z hz).2.1
      rw[f1,e1]at g1
      rw[f2,e2]at g2
      first | exact hk _ g1 (by omega) | exact hk _ g2 (by omega)
  · obtain⟨_,_,_,_,⟨y1,hy1,q1⟩,y2,hy2,q2⟩:=hj.arms.each hy
    have e:psN (nxt l o v b).cond=(bL v (aR (l.filter (pD o v)++oH v b) [] 0).1).map fun x=>x.a:=aC3 v _
    rw[e]
    first | exact aTu.2 ⟨y1,hy1,q1.trans e1⟩ | exact aTu.2 ⟨y2,hy2,q2.trans e2⟩
theorem aOi (hb:Base l o)(hi:TInv l o pre (v::r) b)(h:(nxt l o v b).up∉r):(nxt l o v b).msgs=[]:=by
 rw[aU7]
 intro x hx
 obtain⟨h1,h2,h3⟩:=aOh hb hi x hx
 by_cases c:x.b=0
 · have:=hi.nxt_rem hb _ h1
   have h5:0<=x.a:=by
    rcases aTf.1 this.1 with g | g
    · omega
    · have:=(hi.facts hb).2.1 x.a (by simp[g]);omega
   omega
 · exact h (hi.nxt_up hb h2 c)
theorem aHE (hb:Base l o)(hi:TInv l o pre (v::r) b):(∀ x∈l.filter (pD o v)++oH v b,0<x.w)/\0<sm wt (bL v (aR (l.filter (pD o v)++oH v b) [] 0).1):=by
 have hinc:=hi.inc hb
 exact⟨fun x hx=>(hinc.lk x hx).1.sc.1,(hinc.join).2.1.arms.pos⟩
theorem aLD (p q:Int->Q)(hb:Base l o)(hg:Grounded l o):∀ (n:Nat) (pre rem:List Int),pre.length=n->o=pre++rem->
 sm (eP p q) (l.filter fun x=>decide (aU o [x.a,x.b]∈pre))=sn (fun n=>cdE p q n.cond+n.enQ) (bX l o pre [])+sm (eP p q) (kF ((bX l o pre []).filter (sI rem)))
 | 0,pre,rem,hn,e=>by
  have:pre=[]:=aTq.1 hn
  subst this
  have e1:(l.filter fun x=>decide (aU o [x.a,x.b]∈([]:List Int)))=[]:=by simp
  rw[e1]
  simp only[bX,aUY,kF,aUM,sm,sn]
  grind
 | n+1,pre,rem,hn,e=>by
  rcases aVq pre with rfl | ⟨q',v,rfl⟩
  · simp at hn
  rw[aVr]at hn e ⊢
  have eo:o=q'++v::rem:=by rw[e,aTx];rfl
  have ih:=aLD p q hb hg n q' (v::rem) (by simpa using hn) eo
  have ti:=TInv.at hb hg q'.length q' (v::rem) rfl eo
  obtain⟨nd,h1,hv,v1,v9,hl,nV,hV⟩:=ti.facts hb
  obtain⟨fp1,fp2⟩:=aHE hb ti
  have hN:=aP2 p q fp1 fp2
  rw[xD,aNF]
  simp only[sn]
  have vq:v∉q':=fun h=>by
   have:=hb.nd
   rw[eo]at this
   exact(aTw.1 this).2.2 v h v (by simp) rfl
  have s1:sm (eP p q) (l.filter fun x=>decide (aU o [x.a,x.b]∈q'++[v]))=sm (eP p q) (l.filter fun x=>decide (aU o [x.a,x.b]∈q'))+sm (eP p q) (l.filter (pD o v)):=by
   rw[aCW (eP p q) (fun x=>decide (aU o [x.a,x.b]∈q')),aUv,aUv]
   congr 2
   · refine aUO fun x _=>?_
     by_cases c:aU o [x.a,x.b]∈q' <;> simp[c]
   · refine aUO fun x _=>?_
     unfold pD
     by_cases c:aU o [x.a,x.b]=v
     · simp[c,vq]
     · by_cases d:aU o [x.a,x.b]∈q' <;> simp[c,d]
  have s2:sm (eP p q) (kF ((bX l o q' []).filter (sI (v::rem))))=sm (eP p q) (oH v (bX l o q' []))+sm (eP p q) (kF ((bX l o q' []).filter (sI rem))):=by
   rw[aCG (eP p q) (kid v),aF9,aDW hv]
   rfl
  have s3:sm (eP p q) (kF ((bX l o q' []++[nxt l o v (bX l o q' [])]).filter (sI rem)))=sm (eP p q) (kF ((bX l o q' []).filter (sI rem)))+sm (eP p q) (nxt l o v (bX l o q' [])).msgs:=by
   unfold kF
   rw[aVj,aUX,pP,aTP,aUY]
   by_cases c:(nxt l o v (bX l o q' [])).up∈rem
   · have:sI rem (nxt l o v (bX l o q' []))=true:=aTg c
     rw[aTd this,aTO,aUM,aUf]
   · have:¬sI rem (nxt l o v (bX l o q' []))=true:=fun h=>c (aTM h)
     rw[aTc this,aOi hb ti c,aUM]
  rw[s1,s3,ih,s2]
  grind
end
theorem aKp (p q:Int->Q){l:List QL}{o:List Int}(h:Tie l o):sm (eP p q) l=sn (fun n=>cdE p q n.cond) (bX l o o [])+sn (fun n=>n.enQ) (bX l o o []):=by
 have e:=aLD p q h.base h.gr o.length o [] rfl (by simp)
 have e1:(l.filter fun x=>decide (aU o [x.a,x.b]∈o))=l:=List.filter_eq_self.2 fun x hx=>aTg (h.owner x hx)
 have e2:(bX l o o []).filter (sI [])=[]:=List.filter_eq_nil_iff.2 fun c _ hc=>by have:=aTM hc;simp at this
 rw[e1,e2,aNG]at e
 rw[e]
 simp only[kF,aUM,sm]
 grind
def sol (g:PQ->Q):List NQ->Int->Q
 | [],_=>0
 | n::r,u=>if u=n.node then app (sol g r) g n.cond.ps else sol g r u
theorem aHN {f f':Int->Q}(g:PQ->Q):∀ {ps:List PQ},(∀ x∈ps,f x.node=f' x.node)->app f g ps=app f' g ps
 | [],_=>rfl
 | x::r,h=>by rw[app,app,h x (by simp),aHN g fun y hy=>h y (by simp[hy])]
def Dn (b:List NQ):Prop:=b.Pairwise (fun n c=>n.node∉psN c.cond/\n.node≠c.node)/\∀ n∈b,n.node∉psN n.cond/\n.cond.node=n.node
theorem Dn.tail {n:NQ}{r:List NQ}(h:Dn (n::r)):Dn r:=⟨(aTQ.1 h.1).2,fun c hc=>h.2 c (by simp[hc])⟩
theorem aLG (g:PQ->Q):∀ (b:List NQ) (u:Int),(∀ n∈b,n.node≠u)->sol g b u=0
 | [],_,_=>rfl
 | n::r,u,h=>by rw[sol,aTc (fun e=>h n (by simp) e.symm),aLG g r u fun c hc=>h c (by simp[hc])]
theorem aH8 (g:PQ->Q)(p:Int->Q):∀ {b:List NQ},Dn b->(∀ n∈b,p n.node=app p g n.cond.ps)->(∀ n∈b,∀ u∈psN n.cond,(∃ c∈b,c.node=u)\/p u=0)->∀ n∈b,p n.node=sol g b n.node
 | c::r,h,hp,hu,n,hn=>by
  have hpw:=(aTQ.1 h.1).1
  have ih:=aH8 g p h.tail (fun m hm=>hp m (by simp[hm])) (fun m hm u hu'=>by
   rcases hu m (by simp[hm]) u hu' with⟨d,hd,e⟩ | h0
   · rcases aTf.1 hd with rfl | hd
     · exact absurd (e▸hu') (hpw m hm).1
     · exact .inl ⟨d,hd,e⟩
   · exact .inr h0)
  rcases aTf.1 hn with rfl | hn
  · rw[hp n (by simp),sol,aTd rfl]
    refine aHN g fun x hx=>?_
    have hm:x.node∈psN n.cond:=aUm hx
    by_cases c1:∃ d∈r,d.node=x.node
    · obtain⟨d,hd,e⟩:=c1
      rw[<- e];exact ih d hd
    · rw[aLG g r _ fun d hd e=>c1 ⟨d,hd,e⟩]
      rcases hu n (by simp) _ hm with⟨d,hd,e⟩ | h0
      · rcases aTf.1 hd with rfl | hd
        · exact absurd (e▸hm) (h.2 d (by simp)).1
        · exact absurd ⟨d,hd,e⟩ c1
      · exact h0
  · rw[sol,aTc (fun e=>(hpw n hn).2 e.symm)]
    exact ih n hn
theorem aQF (x:Q):0<=x*x:=by
 rcases Std.le_total (a:=0) (b:=x)with h | h
 · exact aTV h h
 · have:=aTV (a:=-x) (b:=-x) (by grind) (by grind)
   grind
/- Two trees of the same links: the same solution, the same energy. -/
theorem aLE {l:List QL}{o:List Int}(h:Tie l o):∀ (n:Nat) (pre rem:List Int),pre.length=n->o=pre++rem->
 Dn (bX l o pre [])/\∀ c∈bX l o pre [],c.node∈pre/\0<c.cond.t/\∀ u∈psN c.cond,u=0\/u∈o
 | 0,pre,rem,hn,e=>by
  have:pre=[]:=aTq.1 hn
  subst this
  exact⟨⟨List.Pairwise.nil,by simp[bX]⟩,by simp[bX]⟩
 | n+1,pre,rem,hn,e=>by
  rcases aVq pre with rfl | ⟨q,v,rfl⟩
  · simp at hn
  rw[aVr]at hn e ⊢
  have eo:o=q++v::rem:=by rw[e,aTx];rfl
  obtain⟨⟨i1,i2⟩,i3⟩:=aLE h n q (v::rem) (by simpa using hn) eo
  have ti:=TInv.at h.base h.gr q.length q (v::rem) rfl eo
  obtain⟨fp1,fp2⟩:=aHE h.base ti
  have hrem:=ti.nxt_rem h.base
  have nd:=h.nd
  rw[eo]at nd
  have nd2:=aTw.1 nd
  rw[xD]
  refine⟨⟨?_,?_⟩,?_⟩
  · rw[aUH]
    refine⟨i1,by simp,fun c hc d hd=>?_⟩
    rw[aTU.1 hd]
    have cq:=(i3 c hc).1
    have c1:=(h.five c.node (by rw[eo];simp[cq])).1
    refine⟨fun hm=>?_,fun e=>?_⟩
    · rcases aTf.1 (hrem _ hm).1 with g | g
      · omega
      · exact nd2.2.2 _ cq _ (aTT _ g) rfl
    · have:c.node=v:=e
      exact nd2.2.2 _ cq _ (by simp) this
  · intro c hc
    rcases aTj.1 hc with hc | hc
    · exact i2 c hc
    · rw[aTU.1 hc]
      exact⟨fun hm=>(hrem _ hm).2 rfl,rfl⟩
  · intro c hc
    rcases aTj.1 hc with hc | hc
    · obtain⟨g1,g2,g3⟩:=i3 c hc
      exact⟨by simp[g1],g2,g3⟩
    · rw[aTU.1 hc]
      refine⟨by simp[show(nxt l o v (bX l o q [])).node=v from rfl],fp2,fun u hu=>?_⟩
      rcases aTf.1 (hrem u hu).1 with g | g
      · exact .inl g
      · exact .inr (by rw[eo];simp[g])
theorem Tie.dn {l:List QL}{o:List Int}(h:Tie l o):Dn (bX l o o [])/\∀ c∈bX l o o [],c.node∈o/\0<c.cond.t/\∀ u∈psN c.cond,u=0\/u∈o:=aLE h o.length o [] rfl (by simp)
theorem xC {l:List QL}{o:List Int}{u:Int}(h:u∈o):∃ c∈bX l o o [],c.node=u:=by
 have e:=yL l o o []
 have:u∈(bX l o o []).map (fun n=>n.node):=by rw[e];simpa using h
 obtain⟨c,hc,e2⟩:=aTu.1 this
 exact⟨c,hc,e2⟩
/- Positions have few digits. -/
def aPq (k:Nat)(n:NQ):Prop:=∃ (D X:Nat) (a:List QL),n.cond=rT n.node a/\Arms D X n.node a/\72*D<=ex k
def aAS:Nat->List NQ->Prop
 | _,[]=>True
 | k,n::r=>aPq k n/\aAS (k+1) r
theorem aEr {n:NQ}:∀ {k:Nat} {b:List NQ},aAS k b->aPq (k+b.length) n->aAS k (b++[n])
 | k,[],_,h=>⟨by simpa using h,trivial⟩
 | k,m::r,h,g=>⟨h.1,aEr h.2 (by rw[aTG]at g;rw[show k+1+r.length=k+(r.length+1)by omega];exact g)⟩
theorem aEs {n:NQ}:∀ {k:Nat} {a b:List NQ},aAS k (a++b)->aAS (k+a.length) b
 | k,[],b,h=>h
 | k,m::a,b,h=>by
  have:=aEs (n:=n) (k:=k+1) (a:=a) h.2
  rw[aTG,show k+(a.length+1)=k+1+a.length by omega];exact this
section
variable {l:List QL}{o pre r:List Int}{v:Int}{b:List NQ}
theorem aRI (hb:Base l o)(hi:TInv l o pre (v::r) b):72*aCd v b<=ex b.length:=by
 obtain⟨k1,k2,k3⟩:=hi.kids
 have hH:dW (fun c:NQ=>72*c.den) (b.filter (kid v))<=ex b.length:=aTr (aTr (aUF _ k2) k1) (aK4 _)
 have ex72:72<=ex b.length:=by
  unfold ex
  have:1<=2 ^ b.length:=Nat.one_le_two_pow
  calc 72=72 ^ 1:=rfl
   _<=_:=aT4 (by omega) this
 by_cases c:b.filter (kid v)=[]
 · have:aCd v b=1:=by
    have e:aCd v b=dW (fun c:NQ=>c.den) (b.filter (kid v)):=rfl
    rw[e,c];rfl
   rw[this];omega
 · exact aTr (aC4 _ _ c) hH
theorem aMO (hb:Base l o)(hi:TInv l o pre (v::r) b):aPq b.length (nxt l o v b) :=
 ⟨aCd v b,20*2 ^ b.length,bL v (aR (l.filter (pD o v)++oH v b) [] 0).1,rfl,((hi.inc hb).join).2.1.arms,aRI hb hi⟩
theorem aD8 (hb:Base l o)(hg:Grounded l o):∀ (n:Nat) (pre rem:List Int),pre.length=n->o=pre++rem->aAS 0 (bX l o pre [])
 | 0,pre,rem,hn,e=>by
  have:pre=[]:=aTq.1 hn
  subst this
  exact trivial
 | n+1,pre,rem,hn,e=>by
  rcases aVq pre with rfl | ⟨q,v,rfl⟩
  · simp at hn
  rw[aVr]at hn e ⊢
  have eo:o=q++v::rem:=by rw[e,aTx];rfl
  have ih:=aD8 hb hg n q (v::rem) (by simpa using hn) eo
  have ti:=TInv.at hb hg q.length q (v::rem) rfl eo
  rw[xD]
  refine aEr ih ?_
  rw[aTC]
  exact aMO hb ti
end
def epr:Nat->Nat->Nat
 | _,0=>1
 | k,n+1=>ex k*epr (k+1) n
theorem aOX {k n:Nat}(h:k+n<=5):epr k n<=PP ^ 2:=by
 have:∀ k,k<=5->∀ n,n<=5-k->epr k n<=PP ^ 2:=by unfold PP;decide
 exact this k (by omega) n (by omega)
structure Co (g:PQ->Q)(gl:QL->Q):Prop where
 par:∀ t a,g (yI t a)=gl a
 lk:∀ {D X:Nat} {y:QL},0<D->Lk D X y->bd X (gl y)/\Dv D (y.w*gl y)/\Dv (nm D y.w) (gl y)
def aIS (T M:Nat)(f:Int->Q):Prop:=0<T/\∀ u,Dv T (f u)/\bd M (f u)
def sB (f:Int->Q)(gl:QL->Q)(a:List QL):Q:=sm (fun y=>y.w*(f y.a+gl y)) a
theorem aQX {g:PQ->Q}{gl:QL->Q}(hg:Co g gl)(f:Int->Q)(t:Q):∀ a:List QL,app f g (a.map (yI t))=sB f gl a / t
 | []=>by simp only[aT8,app,sB,sm];grind
 | x::a=>by
  have ih:=aQX hg f t a
  unfold sB at ih ⊢
  rw[aTo,app,sm,ih,hg.par]
  unfold yI
  simp only[]
  grind
theorem aLC {g:PQ->Q}{gl:QL->Q}(hg:Co g gl){f:Int->Q}{T M D X:Nat}(hf:aIS T M f)(hD:0<D):∀ a:List QL,(∀ x∈a,Lk D X x)->Dv (D*T) (sB f gl a)/\-((M+X:Nat):Q)*sm wt a<=sB f gl a/\sB f gl a<=((M+X:Nat):Q)*sm wt a
 | [],_=>by
  unfold sB
  simp only[sm]
  exact⟨⟨0,by simp⟩,by grind,by grind⟩
 | y::a,h=>by
  obtain⟨i1,i2,i3⟩:=aLC hg hf hD a (fun x hx=>h x (by simp[hx]))
  have hy:=h y (by simp)
  obtain⟨g1,g2,g3⟩:=hg.lk hD hy
  obtain⟨f1,f2⟩:=hf.2 y.a
  have b:=aE8 hy.sc.1 (aBJ f2 g1)
  unfold sB at i1 i2 i3 ⊢
  rw[sm,sm]
  have e:y.w*(f y.a+gl y)=y.w*f y.a+y.w*gl y:=by grind
  refine⟨kS ?_ i1,?_,?_⟩
  · rw[e]
    exact kS (yH hy.sc.2.1 f1) (rV T g2)
  · unfold wt at i2 ⊢;grind
  · unfold wt at i3 ⊢;grind
theorem aLR {g:PQ->Q}{gl:QL->Q}(hg:Co g gl){f:Int->Q}{T M D X:Nat}{v:Int}{a:List QL}(hf:aIS T M f)(h:Arms D X v a){a1:List QL}(h1:∀ x∈a1,Lk D X x)(hle:sm wt a1<=sm wt a) :
 Dv (nm D (sm wt a)*T) (sB f gl a1 / sm wt a)/\bd (M+X) (sB f gl a1 / sm wt a):=by
 have hp:=h.pos
 have hN:=(yX h.hD hp (xG h.lk)).1
 obtain⟨d1,d2,d3⟩:=aLC hg hf h.hD a1 h1
 have n1:=kU h1
 have nn:=sG (M+X)
 have m2:=aTV nn (b:=sm wt a-sm wt a1) (by grind)
 constructor
 · obtain⟨z,hz⟩:=d1
   refine⟨z,?_⟩
   rw[aUi,hN,<- hz,aUi]
   grind
 · have k1:-((M+X:Nat):Q)*sm wt a<=sB f gl a1:=by
    generalize ((M+X:Nat):Q)=K at *
    grind
   have k2:sB f gl a1<=((M+X:Nat):Q)*sm wt a:=by
    generalize ((M+X:Nat):Q)=K at *
    grind
   exact aCO hp k1 k2
theorem aC5 {g:PQ->Q}{gl:QL->Q}(hg:Co g gl){f:Int->Q}{T M D X:Nat}{v:Int}{a:List QL}(hf:aIS T M f)(h:Arms D X v a){a1 a2:List QL}(e:a=a1++a2) :
 Dv (nm D (sm wt a)*T) (sB f gl a1 / sm wt a)/\bd (M+X) (sB f gl a1 / sm wt a):=by
 have h2:∀ x∈a2,Lk D X x:=fun x hx=>h.lk x (by rw[e];simp[hx])
 have n2:=kU h2
 have es:sm wt a=sm wt a1+sm wt a2:=by rw[e,pP]
 exact aLR hg hf h (fun x hx=>h.lk x (by rw[e];simp[hx])) (by grind)
/- Gauss-Jordan over the rational numbers: what a step keeps. -/
def su (f:Nat->Q):Nat->Nat->Q
 | _,0=>0
 | a,m+1=>f a+su f (a+1) m
theorem aH7 (f g:Nat->Q):∀ a m,su (fun j=>f j+g j) a m=su f a m+su g a m
 | _,0=>by simp only[su];grind
 | a,m+1=>by rw[su,su,su,aH7 f g (a+1) m];grind
theorem aFg (k:Q)(f:Nat->Q):∀ a m,su (fun j=>k*f j) a m=k*su f a m
 | _,0=>by simp only[su];grind
 | a,m+1=>by rw[su,su,aFg k f (a+1) m];grind
theorem qX {f g:Nat->Q}:∀ {a m:Nat},(∀ j,a<=j->j<a+m->f j=g j)->su f a m=su g a m
 | _,0,_=>rfl
 | a,m+1,h=>by rw[su,su,h a (aTn _) (by omega),qX fun j h1 h2=>h j (by omega) (by omega)]
theorem aBf (f:Nat->Q):∀ a m l,su f a (m+l)=su f a m+su f (a+m) l
 | a,0,l=>by rw[aTC];simp only[su,aTX];grind
 | a,m+1,l=>by
  rw[show m+1+l=(m+l)+1 by omega,su,su,aBf f (a+1) m l,show a+1+m=a+(m+1)by omega]
  grind
theorem aH6 {f:Nat->Q}{a m:Nat}(h:∀ j,a<=j->j<a+m->f j=0):su f a m=0:=by
 rw[qX (g:=fun _=>0) h]
 induction m generalizing a with
 | zero=>rfl
 | succ m ih=>rw[su,ih fun j h1 h2=>h j (by omega) (by omega)];grind
theorem aJa {f:Nat->Q}:∀ {a m:Nat},(∀ j,a<=j->j<a+m->f j<=0)->su f a m<=0
 | _,0,_=>by simp[su]
 | a,m+1,h=>by
  have h1:=h a (aTn _) (by omega)
  have h2:=aJa (f:=f) (a:=a+1) (m:=m) fun j h1 h2=>h j (by omega) (by omega)
  rw[su];grind
theorem aNC {f:Nat->Q}:∀ {a m:Nat},(∀ j,a<=j->j<a+m->f j<=0)->∀ j,a<=j->j<a+m->su f a m<=f j
 | a,0,_,j,h1,h2=>by omega
 | a,m+1,h,j,h1,h2=>by
  have h3:=h a (aTn _) (by omega)
  have hr:=fun i (g1:a+1<=i) (g2:i<a+1+m)=>h i (by omega) (by omega)
  rw[su]
  by_cases c:j=a
  · subst c
    have:=aJa hr
    grind
  · have:=aNC hr j (by omega) (by omega)
    grind
theorem aKw (f:Nat->Q)(n i:Nat)(hi:i<n)(h:∀ j,j<n->j≠i->f j=0):su f 0 n=f i:=by
 have e:n=i+(1+(n-i-1)):=by omega
 rw[e,aBf,aBf,aH6 (a:=0) (m:=i) fun j h1 h2=>h j (by omega) (by omega),aH6 (a:=0+i+1) fun j h1 h2=>h j (by omega) (by omega)]
 simp only[su,aTC]
 grind
def gj (k:Nat)(A:Nat->Nat->Q):Nat->Nat->Q:=fun i j=>if i=k then A k j / A k k else A i j-(A k j / A k k)*A i k
theorem aGi (k:Nat)(A:Nat->Nat->Q)(j:Nat):gj k A k j=A k j / A k k:=by unfold gj;rw[aTd rfl]
theorem zC {k i:Nat}(h:i≠k)(A:Nat->Nat->Q)(j:Nat):gj k A i j=A i j-(A k j / A k k)*A i k:=by unfold gj;rw[aTc h]
def Sat (n:Nat)(A:Nat->Nat->Q)(b:Nat->Q)(x:Nat->Q):Prop:=∀ i,i<n->su (fun j=>A i j*x j) 0 n=b i
theorem aD1 {n k i:Nat}(A:Nat->Nat->Q)(x:Nat->Q)(hp:A k k≠0):su (fun j=>gj k A i j*x j) 0 n=if i=k then su (fun j=>A k j*x j) 0 n / A k k else su (fun j=>A i j*x j) 0 n-(A i k / A k k)*su (fun j=>A k j*x j) 0 n:=by
 by_cases c:i=k
 · subst c
   rw[aTd rfl,qX (g:=fun j=>(1 / A i i)*(A i j*x j)) (fun j _ _=>by rw[aGi];grind),aFg]
   grind
 · rw[aTc c,qX (g:=fun j=>A i j*x j+(-(A i k / A k k))*(A k j*x j)) (fun j _ _=>by rw[zC c];grind),aH7,aFg]
   grind
theorem aRD {n k c:Nat}(hk:k<n)(A:Nat->Nat->Q)(x:Nat->Q)(hp:A k k≠0):Sat n (gj k A) (fun i=>gj k A i c) x↔Sat n A (fun i=>A i c) x:=by
 show(∀ i,i<n->su (fun j=>gj k A i j*x j) 0 n=gj k A i c)↔(∀ i,i<n->su (fun j=>A i j*x j) 0 n=A i c)
 constructor
 · intro h i hi
   have hk':=h k hk
   rw[aD1 A x hp,aTd rfl,aGi]at hk'
   have e1:su (fun j=>A k j*x j) 0 n=A k c:=by grind
   by_cases ci:i=k
   · rw[ci];exact e1
   · have hi':=h i hi
     rw[aD1 A x hp,aTc ci,zC ci,e1]at hi'
     grind
 · intro h i hi
   have e1:=h k hk
   rw[aD1 A x hp]
   by_cases ci:i=k
   · rw[aTd ci,ci,aGi,e1]
   · rw[aTc ci,zC ci,e1,h i hi]
     grind
theorem aRE {n k:Nat}(hk:k<n)(A:Nat->Nat->Q)(x:Nat->Q)(hp:A k k≠0):Sat n (gj k A) (fun _=>0) x↔Sat n A (fun _=>0) x:=by
 show(∀ i,i<n->su (fun j=>gj k A i j*x j) 0 n=0)↔(∀ i,i<n->su (fun j=>A i j*x j) 0 n=0)
 constructor
 · intro h i hi
   have hk':=h k hk
   rw[aD1 A x hp,aTd rfl]at hk'
   have e1:su (fun j=>A k j*x j) 0 n=0:=by grind
   by_cases ci:i=k
   · rw[ci];exact e1
   · have hi':=h i hi
     rw[aD1 A x hp,aTc ci,e1]at hi'
     grind
 · intro h i hi
   have e1:=h k hk
   rw[aD1 A x hp]
   by_cases ci:i=k
   · rw[aTd ci,e1];grind
   · rw[aTc ci,e1,h i hi];grind
structure GJ (n k:Nat)(A:Nat->Nat->Q):Prop where
 unit:∀ i j,i<n->j<k->A i j=if i=j then 1 else 0
 sym:∀ i j,k<=i->i<n->k<=j->j<n->A i j=A j i
 off:∀ i j,k<=i->i<n->k<=j->j<n->i≠j->A i j<=0
 diag:∀ i,k<=i->i<n->A i i<=72
 rsum:∀ i,k<=i->i<n->0<=su (A i) k (n-k)
 top:∀ i j,i<k->k<=j->j<n->A i j<=0
 tsum:∀ i,i<k->-1<=su (A i) k (n-k)
 ker:∀ x,Sat n A (fun _=>0) x->∀ i,i<n->x i=0
section
variable {n k:Nat}{A:Nat->Nat->Q}
theorem GJ.sum_k (h:GJ n k A)(hk:k<n)(i:Nat):su (A i) k (n-k)=A i k+su (A i) (k+1) (n-(k+1)):=by
 rw[show n-k=(n-(k+1))+1 by omega,su]
theorem GJ.piv (h:GJ n k A)(hk:k<n)(hkn:k<=n):0<A k k:=by
 have r:=h.rsum k (aTn _) hk
 rw[h.sum_k hk]at r
 have np:∀ j,k+1<=j->j<k+1+(n-(k+1))->A k j<=0:=fun j h1 h2=>h.off k j (aTn _) hk (by omega) (by omega) (by omega)
 have s:=aJa np
 have key:A k k≠0:=fun e=>by
  have z:∀ j,k+1<=j->j<n->A k j=0:=fun j h1 h2=>by
   have:=aNC np j h1 (by omega)
   have:=np j h1 (by omega)
   grind
  have:=h.ker (fun j=>if j<k then-A j k else if j=k then 1 else 0) (fun i hi=>by
   have hsp:su (fun j=>A i j*(if j<k then-A j k else if j=k then 1 else 0)) 0 n=su (fun j=>A i j*(if j<k then-A j k else 0)) 0 n+A i k:=by
    have e1:su (fun j=>A i j*(if j=k then(1:Q)else 0)) 0 n=A i k:=by
     rw[aKw _ n k hk fun j _ hj=>by rw[aTc hj];grind]
     simp only[aTz];grind
    rw[<- e1,<- aH7]
    refine qX fun j _ _=>?_
    by_cases c:j<k
    · rw[aTd c,aTd c,aTc (by omega)];grind
    · rw[aTc c,aTc c];grind
   rw[hsp]
   by_cases c:i<k
   · rw[aKw _ n i hi fun j hj hji=>by
      by_cases cj:j<k
      · rw[aTd cj,h.unit i j hi cj,aTc (fun e=>hji e.symm)];grind
      · rw[aTc cj];grind]
     simp only[aTd c]
     rw[h.unit i i hi c,aTd rfl]
     grind
   · rw[aH6 fun j _ hj=>by
      by_cases cj:j<k
      · rw[h.unit i j hi cj,aTc (by omega)];grind
      · rw[aTc cj];grind]
     by_cases ci:i=k
     · rw[ci,e];grind
     · rw[h.sym i k (by omega) hi (aTn _) hk,z i (by omega) hi];grind) k hk
  simp at this
 grind
theorem aKM {a b:Q}(h1:a<=0)(h2:b<=0):0<=a*b:=by
 have:=aTV (a:=-a) (b:=-b) (by grind) (by grind)
 grind
theorem aCE {a p:Q}(h1:a<=0)(hp:0<p):a / p<=0:=by
 have:=aTV (a:=-a) (b:=1 / p) (by grind) (by
  have:0<1 / p:=by rw[_root_.Rat.lt_div_iff hp];grind
  grind)
 grind
theorem aRk {a p:Q}(h1:0<=a)(hp:0<p):0<=a / p:=by
 have:=aCE (a:=-a) (by grind) hp
 grind
theorem GJ.next (h:GJ n k A)(hk:k<n):GJ n (k+1) (gj k A):=by
 have hp:=h.piv hk (by omega)
 have h0:A k k≠0:=by grind
 have rk:=h.rsum k (aTn _) hk
 rw[h.sum_k hk]at rk
 have sumr:∀ i,i≠k->su (gj k A i) (k+1) (n-(k+1))=su (A i) (k+1) (n-(k+1))-(A i k / A k k)*su (A k) (k+1) (n-(k+1)):=fun i hi=>by
  rw[qX (g:=fun j=>A i j+(-(A i k / A k k))*A k j) (fun j _ _=>by rw[zC hi];grind),aH7,aFg]
  grind
 have sumk:su (gj k A k) (k+1) (n-(k+1))=su (A k) (k+1) (n-(k+1)) / A k k:=by
  rw[qX (g:=fun j=>(1 / A k k)*A k j) (fun j _ _=>by rw[aGi];grind),aFg]
  grind
 refine⟨fun i j hi hj=>?_,fun i j h1 h2 h3 h4=>?_,fun i j h1 h2 h3 h4 h5=>?_,fun i h1 h2=>?_,fun i h1 h2=>?_,fun i j h1 h2 h3=>?_,fun i h1=>?_,fun x hx=>?_⟩
 · by_cases c:j=k
   · subst c
     by_cases ci:i=j
     · subst ci;rw[aGi,aTd rfl];grind
     · rw[zC ci,aTc ci];grind
   · have hj':j<k:=by omega
     have ekj:=h.unit k j hk hj'
     rw[aTc (by omega)]at ekj
     by_cases ci:i=k
     · rw[ci,aGi,ekj,aTc (by omega)];grind
     · rw[zC ci,ekj,h.unit i j hi hj'];grind
 · rw[zC (by omega),zC (by omega),h.sym i j (by omega) h2 (by omega) h4,h.sym k j (aTn _) hk (by omega) h4,h.sym i k (by omega) h2 (aTn _) hk]
   grind
 · rw[zC (by omega)]
   have a1:=h.off i j (by omega) h2 (by omega) h4 h5
   have a2:=aCE (h.off k j (aTn _) hk (by omega) h4 (by omega)) hp
   have a3:=aKM a2 (h.off i k (by omega) h2 (aTn _) hk (by omega))
   grind
 · rw[zC (by omega)]
   have a2:=aCE (h.off k i (aTn _) hk (by omega) h2 (by omega)) hp
   have a3:=aKM a2 (h.off i k (by omega) h2 (aTn _) hk (by omega))
   have:=h.diag i (by omega) h2
   grind
 · rw[sumr i (by omega)]
   have ri:=h.rsum i (by omega) h2
   rw[h.sum_k hk]at ri
   have a2:=aCE (h.off i k (by omega) h2 (aTn _) hk (by omega)) hp
   have a3:=aTV (a:=-(A i k / A k k)) (b:=A k k+su (A k) (k+1) (n-(k+1))) (by grind) rk
   have a4:(A i k / A k k)*A k k=A i k:=by grind
   grind
 · by_cases ci:i=k
   · rw[ci,aGi]
     exact aCE (h.off k j (aTn _) hk (by omega) h3 (by omega)) hp
   · rw[zC ci]
     have a1:=h.top i j (by omega) (by omega) h3
     have a2:=aCE (h.off k j (aTn _) hk (by omega) h3 (by omega)) hp
     have a3:=aKM a2 (h.top i k (by omega) (aTn _) hk)
     grind
 · by_cases ci:i=k
   · rw[ci,sumk]
     have:=aRk rk hp
     have e:(A k k+su (A k) (k+1) (n-(k+1))) / A k k=1+su (A k) (k+1) (n-(k+1)) / A k k:=by grind
     grind
   · rw[sumr i ci]
     have ti:=h.tsum i (by omega)
     rw[h.sum_k hk]at ti
     have a2:=aCE (h.top i k (by omega) (aTn _) hk) hp
     have a3:=aTV (a:=-(A i k / A k k)) (b:=A k k+su (A k) (k+1) (n-(k+1))) (by grind) rk
     have a4:(A i k / A k k)*A k k=A i k:=by grind
     grind
 · exact h.ker x ((aRE hk A x h0).1 hx)
end
/- A conditional applied: the program. -/
theorem aJk {p q:Q}(hp:bQ p)(hq:bQ q)(h:bQ (p+q)):bN (ofQ p) (ofQ q)=some (ofQ (p+q)):=by
 have e:=(yG (jP hp) (jP hq)).2.1
 rw[aGG hp hq h]at e;exact e
theorem aNZ {p q:Q}(hp:bQ p)(hq:bQ q)(h:bQ (p*q)):bT (ofQ p) (ofQ q)=some (ofQ (p*q)):=by
 have e:=(aBa (jP hp) (jP hq)).2.1
 rw[aGF hp hq h]at e;exact e
theorem aS0 {p:Q}(hp:bQ p):kM (ofQ p)=some true:=by
 have:=nF (jP hp)
 rw[aAm _ (by omega),aTg (qT hp)]
theorem aOL {p:Q}(hp:bQ p):dE (ofQ p)=some true:=by
 rw[iE (jP hp),aTg (qT hp)]
theorem aNq (f:Int->Q)(gl:QL->Q)(a b:List QL):sB f gl (a++b)=sB f gl a+sB f gl b:=pP _ _ _
/- A tree solved: the program. -/
def mN (b:List NQ):List Conditional:=b.map fun n=>n.cond.toC
structure NetB (b:List NQ):Prop where
 dn:Dn b
 len:b.length<=5
 nb:aAS 0 b
 each:∀ n∈b,cX n.cond.toC=some true/\(1<=n.node/\n.node<=9)/\∀ u∈psN n.cond,u=0\/∃ c∈b,c.node=u
theorem Tie.netB {l:List QL}{o:List Int}(h:Tie l o):NetB (bX l o o []):=by
 obtain⟨d,f⟩:=h.dn
 refine⟨d,?_,aD8 h.base h.gr o.length o [] rfl (by simp),fun n hn=>⟨?_,?_,fun u hu=>?_⟩⟩
 · rw[aHb];have:=h.base.len;simpa using this
 · have hm:n.toN∈(mF l o).fNodes:=aUm hn
   obtain⟨_,n2,n3⟩:=(aFb h.isTree).2 _ hm
   have ec:n.toN.fCond=n.cond.toC:=rfl
   rw[ec]at n2 n3
   obtain⟨b,v1,v2,_⟩:=aIR n.cond.toC (by omega)
   rw[n2]at v1
   rw[v2,<- Option.some.inj v1]
 · have:=h.five _ (f n hn).1
   omega
 · exact((f n hn).2.2 u hu).imp id xC
theorem aHs (c:CQ):c.toC.fParents.map (·.fNode)=psN c:=by
 unfold CQ.toC psN
 simp only[aUK]
 rfl
theorem aN9 (c:Conditional)(N:List Int)(h:∀ q∈c.fParents,q.fNode∈N)(hz:N.length<=4294967296)(hs:c.fParents.length<=4294967296):lp (oW c N) 0=some (.inl ()):=by
 have main:∀ m k:Nat,m+k=c.fParents.length->lp (oW c N) (k:Int)=some (.inl ()):=by
  intro m
  induction m with
  | zero=>intro k hk;exact aK (by unfold oW;rw[aTc (by omega)])
  | succ m ih =>
   intro k hk
   have hlt:k<c.fParents.length:=by omega
   rw[aQ (s':=((k+1:Nat):Int))]
   · exact ih (k+1) (by omega)
   · unfold oW
     rw[aTd (by omega),aN hlt]
     simp only[aTb]
     rw[aBD _ _ hz,aTg (h _ (aTv hlt))]
     simp only[aTb,aTz]
     rw[wi (n:=(k:Int)+1) (by omega)];rfl
 exact main _ 0 (aTX _)
section
variable {b:List NQ}
theorem NetB.sp {b1 r:List NQ}{n:NQ}(h:NetB b)(e:b=b1++n::r):n.node∉r.map (fun c=>c.node)/\(∀ u∈psN n.cond,u=0\/∃ c∈r,c.node=u)/\n.cond.node=n.node:=by
 have hp:=h.dn.1
 have hm:n∈b:=by rw[e];simp
 rw[e,aUH,aTQ]at hp
 obtain⟨p1,⟨p2,p3⟩,p4⟩:=hp
 refine⟨fun hr=>?_,fun u hu=>?_,(h.dn.2 n hm).2⟩
 · obtain⟨c,hc,ec⟩:=aTu.1 hr
   exact(p2 c hc).2 ec.symm
 · rcases(h.each n hm).2.2 u hu with h0 | ⟨c,hc,ec⟩
   · exact .inl h0
   · right
     rw[e]at hc
     rcases aTj.1 hc with hc | hc
     · exact absurd (ec▸hu) (p4 c hc n (by simp)).1
     · rcases aTf.1 hc with rfl | hc
       · exact absurd (ec▸hu) (h.dn.2 c hm).1
       · exact⟨c,hc,ec⟩
theorem NetB.isNet (h:NetB b):uX (mN b)=some true:=by
 have hlen:=h.len
 have nl:(mN b).length=b.length:=by unfold mN;rw[aTs]
 have main:∀ (n:Nat) (b1 r:List NQ),b1.length=n->b=b1++r->lp (oV (mN b)) ((b1.length:Int)-1,0::(r.map fun c=>c.node).reverse)=some (.inl ()):=by
  intro n
  induction n with
  | zero =>
   intro b1 r hn e
   have:b1=[]:=aTq.1 hn
   subst this
   exact aK (by unfold oV;simp only[];rw[aTc (by simp)])
  | succ n ih =>
   intro b1 r hn e
   rcases aVq b1 with rfl | ⟨b2,x,rfl⟩
   · simp at hn
   rw[aVr]at hn e ⊢
   have e2:b=b2++x::r:=by rw[e,aTx];rfl
   obtain⟨s1,s2,s3⟩:=h.sp e2
   obtain⟨v1,v2,_⟩:=h.each x (by rw[e2];simp)
   have bl:b.length=b2.length+(r.length+1):=by rw[e2];simp
   have el:(((b2++[x]).length:Nat):Int)-1=(b2.length:Int):=by rw[aTF,aTY];omega
   have lt:b2.length<(mN b).length:=by rw[nl,e2];simp
   have hg:(mN b)[b2.length]=x.cond.toC:=by
    unfold mN
    simp only[aUL,e2]
    simp
   have hN:(0::(r.map fun c=>c.node).reverse).length<=10:=by
    have:b.length=b2.length+(r.length+1):=by rw[e2];simp
    simp;omega
   have hfn:x.cond.toC.fNode=x.node:=s3
   have hpl:x.cond.toC.fParents.length<=100:=by
    obtain⟨D,X,a,e3,ha,_⟩:=(aEs (n:=x) (k:=0) (a:=b2) (b:=x::r) (by rw[<- e2];exact h.nb)).1
    have:=aGg ha.inc fun x hx=>(ha.nd x hx).1
    rw[e3];unfold CQ.toC rT;simp;omega
   rw[el]
   have st:oV (mN b) ((b2.length:Int),0::(r.map fun c=>c.node).reverse)=some (.inl ((b2.length:Int)-1,0::((x::r).map fun c=>c.node).reverse)):=by
    unfold oV
    simp only[]
    rw[aTd (by omega),aN lt,hg]
    simp only[aTb]
    rw[v1]
    simp only[aTb,aTz]
    rw[hfn,aBD _ _ (by omega),aTe (by
     intro hm
     rcases aTf.1 hm with h0 | hm
     · omega
     · exact s1 (List.mem_reverse.1 hm))]
    simp only[aTb,aTk,aTD]
    rw[aN9 _ _ (fun q hq=>by
     have:q.fNode∈psN x.cond:=by rw[<- aHs];exact aUm hq
     rcases s2 _ this with h0 | ⟨c,hc,ec⟩
     · rw[h0];simp
     · refine aTT _ (List.mem_reverse.2 ?_)
       rw[<- ec];exact aUm hc) (by omega) (by omega)]
    simp only[aTb,aJ]
    rw[aM (by omega),wi (n:=(b2.length:Int)-1) (by omega)]
    simp
   rw[aQ st]
   exact ih b2 (x::r) (by simpa using hn) e2
 have:=main b.length b [] rfl (by simp)
 unfold uX
 rw[nl,wi (n:=(b.length:Int)-1) (by omega),aJ]
 simp only[aT8,List.reverse_nil]at this
 rw[this]
 rfl
def aMC (b:List NQ):Int:=b.foldl (fun g n=>max g n.node) 0
theorem aJV:∀ (b:List NQ) (g:Int),g<=b.foldl (fun g n=>max g n.node) g/\(∀ n∈b,n.node<=b.foldl (fun g n=>max g n.node) g)/\(b.foldl (fun g n=>max g n.node) g=g\/∃ n∈b,n.node=b.foldl (fun g n=>max g n.node) g)
 | [],g=>by simp
 | n::b,g=>by
  obtain⟨h1,h2,h3⟩:=aJV b (max g n.node)
  rw[aUG]
  refine⟨by omega,fun m hm=>?_,?_⟩
  · rcases aTf.1 hm with rfl | hm
    · omega
    · exact h2 m hm
  · rcases h3 with h3 | ⟨m,hm,e⟩
    · by_cases c:n.node<=g
      · left;omega
      · right;exact⟨n,by simp,by omega⟩
    · exact .inr ⟨m,by simp[hm],e⟩
theorem NetB.top (h:NetB b):lp (qQ (mN b)) (0,0)=some (aMC b)/\0<=aMC b/\aMC b<=9/\∀ n∈b,n.node<=aMC b:=by
 have hlen:=h.len
 have nl:(mN b).length=b.length:=by unfold mN;rw[aTs]
 obtain⟨f1,f2,f3⟩:=aJV b 0
 refine⟨?_,f1,?_,f2⟩
 · have:=(mQ (step:=qQ (mN b)) b (fun k g=>(g,(k:Int))) (fun g n=>max g n.node) (fun g=>g) (fun _ _=>True) (fun k g hk _=>by
    refine⟨?_,trivial⟩
    unfold qQ
    simp only[]
    rw[aTd (by omega),aN (by omega:k<(mN b).length)]
    simp only[aTb]
    have hg:((mN b)[k]'(by omega)).fNode=(b[k]).node:=by
     unfold mN
     simp only[aUL]
     exact(h.dn.2 _ (aTv hk)).2
    rw[hg,wi (n:=(k:Int)+1) (by omega)];rfl) (fun g _=>by unfold qQ;simp only[];rw[aTc (by omega)]) 0 trivial).1
   exact this
 · rcases f3 with f3 | ⟨n,hn,e⟩
   · unfold aMC;omega
   · have:=(h.each n hn).2.1
     unfold aMC;omega
end
theorem aSs {t:Tree}(hz:sZ t<=4294967296)(hc:∀ n∈t.fNodes,aX n.fCond<=4294967296)(hl:t.fNodes.length<=1000):tY t=some (t.fNodes.map (·.fCond)):=by
 have:=(mQ (step:=oO t) t.fNodes (fun k u=>((k:Int),u)) (fun u n=>u++[n.fCond]) (fun u=>u) (fun k u=>u.length<=k) (fun k u hk hi=>by
  constructor
  · unfold oO
    simp only[]
    rw[aTd (by omega),aN hk]
    simp only[aTb]
    rw[tW _ (hc _ (aTv hk))]
    simp only[aTb,aJ]
    rw[aM (by omega),wi (n:=(k:Int)+1) (by omega)];rfl
  · rw[aTF,aTY];omega) (fun u _=>by unfold oO;simp only[];rw[aTc (by omega)]) [] (aT9 _)).1
 have e:∀ (a:List TreeNode) (u:List Conditional),a.foldl (fun u n=>u++[n.fCond]) u=u++a.map (·.fCond):=by
  intro a
  induction a with
  | nil=>simp
  | cons x a ih=>intro u;rw[aUG,ih];simp
 rw[show((0:Nat):Int)=0 from rfl,e,aTi]at this
 unfold tY
 rw[this];rfl
/- The energy of a tree: the program. -/
section
variable {l:List QL}{o pre rem:List Int}
end
/- Covariances of a tree over the rational numbers. -/
def lin (f:Int->Q):List PQ->Q
 | []=>0
 | x::r=>x.s*f x.node+lin f r
theorem oT {f f':Int->Q}:∀ {ps:List PQ},(∀ x∈ps,f x.node=f' x.node)->lin f ps=lin f' ps
 | [],_=>rfl
 | x::r,h=>by rw[lin,lin,h x (by simp),oT fun y hy=>h y (by simp[hy])]
theorem aIG (f g:Int->Q):∀ ps:List PQ,lin (fun u=>f u-g u) ps=lin f ps-lin g ps
 | []=>by simp only[lin];grind
 | x::r=>by rw[lin,lin,lin,aIG f g r];grind
theorem aIH (k:Q)(f:Int->Q):∀ ps:List PQ,lin (fun u=>k*f u) ps=k*lin f ps
 | []=>by simp only[lin];grind
 | x::r=>by rw[lin,lin,aIH k f r];grind
theorem aII (f g:Int->Q):∀ ps:List PQ,lin (fun u=>f u+g u) ps=lin f ps+lin g ps
 | []=>by simp only[lin];grind
 | x::r=>by rw[lin,lin,lin,aII f g r];grind
theorem aJH (F:Int->Int->Q)(ps:List PQ):∀ qs:List PQ,lin (fun u=>lin (fun q=>F u q) ps) qs=lin (fun q=>lin (fun u=>F u q) qs) ps
 | []=>by
  simp only[lin]
  induction ps with
  | nil=>rfl
  | cons x r ih=>rw[lin,<- ih];grind
 | y::r=>by
  rw[lin,aJH F ps r,<- aIH,<- aII]
  rfl
theorem aE2 (f:Int->Q)(g:PQ->Q):∀ ps:List PQ,app f g ps=lin f ps+app (fun _=>0) g ps
 | []=>by simp only[app,lin];grind
 | x::r=>by rw[app,lin,app,aE2 f g r];grind
theorem aL8 (f:Int->Q):∀ ps:List PQ,lin (fun u=>- f u) ps=- lin f ps
 | []=>by simp only[lin];grind
 | x::r=>by rw[lin,lin,aL8 f r];grind
def rs (p:Int->Q)(n:NQ):Q:=p n.node-lin p n.cond.ps
def bil (b:List NQ)(p f:Int->Q):Q:=sn (fun n=>n.cond.t*(rs p n*rs f n)) b
def e0 (p:Int->Q)(x:QL):Q:=x.w*((p x.b-p x.a)*(p x.b-p x.a))
theorem aQH (p:Int->Q):∀ l:List QL,sm (eP p (fun _=>0)) l+sm (eP (fun u=>- p u) (fun _=>0)) l=2*sm (eP (fun _=>0) (fun _=>0)) l+2*sm (e0 p) l
 | []=>by simp only[sm];grind
 | x::l=>by
  have ih:=aQH p l
  rw[sm,sm,sm,sm]
  have e:eP p (fun _=>0) x+eP (fun u=>- p u) (fun _=>0) x=2*eP (fun _=>0) (fun _=>0) x+2*e0 p x:=by
   unfold eP e0 sqQ
   simp only[]
   generalize p x.b=u
   generalize p x.a=v
   grind
  grind
theorem aQG (p:Int->Q):∀ b:List NQ,(∀ n∈b,n.cond.node=n.node)->sn (fun n=>cdE p (fun _=>0) n.cond) b+sn (fun n=>cdE (fun u=>- p u) (fun _=>0) n.cond) b=2*sn (fun n=>cdE (fun _=>0) (fun _=>0) n.cond) b+2*bil b p p
 | [],_=>by simp only[sn,bil];grind
 | n::b,h=>by
  have ih:=aQG p b fun m hm=>h m (by simp[hm])
  have hn:=h n (by simp)
  unfold bil at ih ⊢
  rw[sn,sn,sn,sn]
  have e:cdE p (fun _=>0) n.cond+cdE (fun u=>- p u) (fun _=>0) n.cond=2*cdE (fun _=>0) (fun _=>0) n.cond+2*(n.cond.t*(rs p n*rs p n)):=by
   unfold cdE rs sqQ
   rw[hn,aE2 p,aE2 (fun u=>- p u),aL8]
   simp only[]
   generalize app (fun _=>0) (fun x=>x.x) n.cond.ps=A
   generalize app (fun _=>0) (fun x=>x.y) n.cond.ps=B
   generalize lin p n.cond.ps=C
   generalize p n.node=D
   grind
  grind
theorem aER (p:Int->Q){l:List QL}{o:List Int}(h:Tie l o):sm (e0 p) l=bil (bX l o o []) p p:=by
 obtain⟨d,_⟩:=h.dn
 have a1:=aKp p (fun _=>0) h
 have a2:=aKp (fun u=>- p u) (fun _=>0) h
 have a3:=aKp (fun _=>0) (fun _=>0) h
 have b1:=aQH p l
 have b2:=aQG p (bX l o o []) fun n hn=>(d.2 n hn).2
 grind
def cvQ:List NQ->Int->Int->Q
 | [],_,_=>0
 | n::r,a,c=>if a=n.node then(if c=n.node then 1 / n.cond.t+lin (fun u=>lin (cvQ r u) n.cond.ps) n.cond.ps else lin (fun u=>cvQ r u c) n.cond.ps)else if c=n.node then lin (fun u=>cvQ r u a) n.cond.ps else cvQ r a c
theorem aAM:∀ (b:List NQ) (a c:Int),cvQ b a c=cvQ b c a
 | [],_,_=>rfl
 | n::r,a,c=>by
  rw[cvQ,cvQ]
  by_cases h1:a=n.node
  · by_cases h2:c=n.node
    · simp[h1,h2]
    · simp[h1,h2]
  · by_cases h2:c=n.node
    · simp[h1,h2]
    · simp[h1,h2,aAM r a c]
theorem aGb:∀ ps:List PQ,lin (fun _=>0) ps=0
 | []=>rfl
 | x::r=>by rw[lin,aGb r];grind
theorem aIL:∀ (b:List NQ) (u c:Int),(∀ n∈b,n.node≠u)->cvQ b u c=0
 | [],_,_,_=>rfl
 | n::r,u,c,h=>by
  have h1:¬u=n.node:=fun e=>h n (by simp) e.symm
  have h2:∀ c,cvQ r u c=0:=fun c=>aIL r u c fun m hm=>h m (by simp[hm])
  rw[cvQ,aTc h1]
  by_cases hc:c=n.node
  · rw[aTd hc]
    rw[show(fun w=>cvQ r w u)=fun _=>0 from funext fun w=>by rw[aAM,h2],aGb]
  · rw[aTc hc];exact h2 c
theorem aND (p:Int->Q)(G:Int->NQ->Q)(ps:List PQ):∀ r:List NQ,sn (fun m=>m.cond.t*(rs p m*lin (fun q=>G q m) ps)) r=lin (fun q=>sn (fun m=>m.cond.t*(rs p m*G q m)) r) ps
 | []=>by simp only[sn,aGb]
 | m::r=>by
  rw[sn,aND p G ps r]
  have e:(fun q=>sn (fun m=>m.cond.t*(rs p m*G q m)) (m::r))=fun q=>(m.cond.t*rs p m)*G q m+sn (fun m=>m.cond.t*(rs p m*G q m)) r:=funext fun q=>by rw[sn];grind
  rw[e,aII,aIH]
  grind
theorem aFi {f g:NQ->Q}:∀ {b:List NQ},(∀ n∈b,f n=g n)->sn f b=sn g b
 | [],_=>rfl
 | n::b,h=>by rw[sn,sn,h n (by simp),aFi fun m hm=>h m (by simp[hm])]
def Pin (b:List NQ):Prop:=∀ n∈b,∀ u∈psN n.cond,u=0\/∃ c∈b,c.node=u
theorem Pin.tail {n:NQ}{r:List NQ}(d:Dn (n::r))(h:Pin (n::r)):Pin r:=fun m hm u hu=>by
 rcases h m (by simp[hm]) u hu with h0 | ⟨c,hc,e⟩
 · exact .inl h0
 · rcases aTf.1 hc with rfl | hc
   · exact absurd (e▸hu) ((aTQ.1 d.1).1 m hm).1
   · exact .inr ⟨c,hc,e⟩
theorem aQT (p:Int->Q)(p0:p 0=0):∀ {b:List NQ},Dn b->Pin b->(∀ n∈b,0<n.cond.t)->∀ v,(v=0\/∃ c∈b,c.node=v)->bil b p (fun u=>cvQ b u v)=p v
 | [],_,_,_,v,hv=>by
  rcases hv with rfl | ⟨c,hc,_⟩
  · rw[p0];rfl
  · cases hc
 | n::r,d,hp,ht,v,hv=>by
  have hpw:=(aTQ.1 d.1).1
  have ih:=aQT p p0 d.tail (hp.tail d) (fun m hm=>ht m (by simp[hm]))
  have nn:=(d.2 n (by simp)).1
  have hps:∀ u∈psN n.cond,u=0\/∃ c∈r,c.node=u:=fun u hu=>by
   rcases hp n (by simp) u hu with h0 | ⟨c,hc,e⟩
   · exact .inl h0
   · rcases aTf.1 hc with rfl | hc
     · exact absurd (e▸hu) nn
     · exact .inr ⟨c,hc,e⟩
  have nin:∀ x∈n.cond.ps,¬x.node=n.node:=fun x hx e=>nn (e▸aUm hx)
  have nir:∀ m∈r,(∀ x∈m.cond.ps,¬x.node=n.node)/\¬m.node=n.node:=fun m hm=>⟨fun x hx e=>(hpw m hm).1 (e▸aUm hx),fun e=>(hpw m hm).2 e.symm⟩
  unfold bil at ih ⊢
  rw[sn]
  by_cases c:v=n.node
  · have en:rs (fun u=>cvQ (n::r) u v) n=1 / n.cond.t:=by
     unfold rs
     have e2:lin (fun u=>cvQ (n::r) u v) n.cond.ps=lin (fun u=>lin (cvQ r u) n.cond.ps) n.cond.ps:=oT fun x hx=>by
      rw[cvQ,aTc (nin x hx),aTd c]
      exact oT fun y _=>aAM r _ _
     have e5:cvQ (n::r) n.node v=1 / n.cond.t+lin (fun u=>lin (cvQ r u) n.cond.ps) n.cond.ps:=by rw[cvQ,aTd rfl,aTd c]
     rw[e2]
     simp only[e5]
     grind
    have er:sn (fun m=>m.cond.t*(rs p m*rs (fun u=>cvQ (n::r) u v) m)) r=lin p n.cond.ps:=by
     have e1:∀ m∈r,m.cond.t*(rs p m*rs (fun u=>cvQ (n::r) u v) m)=m.cond.t*(rs p m*lin (fun q=>rs (fun u=>cvQ r u q) m) n.cond.ps):=fun m hm=>by
      have e3:rs (fun u=>cvQ (n::r) u v) m=lin (fun q=>rs (fun u=>cvQ r u q) m) n.cond.ps:=by
       unfold rs
       have e4:lin (fun u=>cvQ (n::r) u v) m.cond.ps=lin (fun u=>lin (fun q=>cvQ r u q) n.cond.ps) m.cond.ps:=oT fun x hx=>by
        rw[cvQ,aTc ((nir m hm).1 x hx),aTd c]
        exact oT fun y _=>aAM r _ _
       have e5:cvQ (n::r) m.node v=lin (fun q=>cvQ r m.node q) n.cond.ps:=by
        rw[cvQ,aTc (nir m hm).2,aTd c]
        exact oT fun y _=>aAM r _ _
       rw[e4,aJH]
       simp only[e5]
       rw[aIG (fun q=>cvQ r m.node q) (fun q=>lin (fun u=>cvQ r u q) m.cond.ps)]
      rw[e3]
     rw[aFi e1,aND p (fun q m=>rs (fun u=>cvQ r u q) m)]
     exact oT fun x hx=>ih x.node (hps _ (aUm hx))
    rw[er,en,c]
    have:=ht n (by simp)
    have h0:n.cond.t≠0:=by grind
    unfold rs
    grind
  · have en:rs (fun u=>cvQ (n::r) u v) n=0:=by
     unfold rs
     have e2:lin (fun u=>cvQ (n::r) u v) n.cond.ps=lin (fun u=>cvQ r u v) n.cond.ps:=oT fun x hx=>by
      rw[cvQ,aTc (nin x hx),aTc c]
     have e5:cvQ (n::r) n.node v=lin (fun u=>cvQ r u v) n.cond.ps:=by rw[cvQ,aTd rfl,aTc c]
     rw[e2]
     simp only[e5]
     grind
    have hv2:v=0\/∃ m∈r,m.node=v:=by
     rcases hv with h0 | ⟨m,hm,e⟩
     · exact .inl h0
     · rcases aTf.1 hm with rfl | hm
       · exact absurd e.symm c
       · exact .inr ⟨m,hm,e⟩
    rw[en,<- ih v hv2]
    have e1:∀ m∈r,m.cond.t*(rs p m*rs (fun u=>cvQ (n::r) u v) m)=m.cond.t*(rs p m*rs (fun u=>cvQ r u v) m):=fun m hm=>by
     have e3:rs (fun u=>cvQ (n::r) u v) m=rs (fun u=>cvQ r u v) m:=by
      unfold rs
      have e5:cvQ (n::r) m.node v=cvQ r m.node v:=by rw[cvQ,aTc (nir m hm).2,aTc c]
      have e6:lin (fun u=>cvQ (n::r) u v) m.cond.ps=lin (fun u=>cvQ r u v) m.cond.ps:=oT fun x hx=>by rw[cvQ,aTc ((nir m hm).1 x hx),aTc c]
      rw[e6]
      simp only[e5]
     rw[e3]
    rw[aFi e1]
    grind
/- What covariances are: the greatest of a form; positive, bounded, alike in all orders. -/
section
variable {l:List QL}{o:List Int}
theorem Tie.pin (h:Tie l o):Pin (bX l o o []):=fun n hn u hu=>((h.dn).2 n hn).2.2 u hu |>.imp id xC
theorem Tie.tpos (h:Tie l o):∀ n∈bX l o o [],0<n.cond.t:=fun n hn=>((h.dn).2 n hn).2.1
def cvT (l:List QL)(o:List Int)(a c:Int):Q:=cvQ (bX l o o []) a c
theorem aMk (a c:Int):cvT l o a c=cvT l o c a:=aAM _ a c
theorem aGu (h:Tie l o)(c:Int):cvT l o 0 c=0:=aIL _ 0 c fun n hn e=>by
 have:=(h.five _ ((h.dn).2 n hn).1).1
 omega
theorem aE1 (h:Tie l o){u:Int}(hu:u∉o)(c:Int):cvT l o u c=0:=aIL _ u c fun n hn e=>hu (e▸((h.dn).2 n hn).1)
theorem aO4 (h:Tie l o){p:Int->Q}(p0:p 0=0){v:Int}(hv:v=0\/v∈o):bil (bX l o o []) p (fun u=>cvT l o u v)=p v :=
 aQT p p0 (h.dn).1 h.pin h.tpos v (hv.imp id xC)
theorem aRe (p f:Int->Q)(n:NQ):rs (fun u=>p u-f u) n=rs p n-rs f n:=by
 unfold rs
 rw[aIG]
 grind
theorem aQl (b:List NQ)(p f:Int->Q):bil b (fun u=>p u-f u) (fun u=>p u-f u)=bil b p p-2*bil b p f+bil b f f:=by
 unfold bil
 induction b with
 | nil=>simp only[sn];grind
 | cons n b ih =>
  rw[sn,sn,sn,sn,ih,aRe]
  grind
theorem aRa (h:Tie l o){p:Int->Q}(p0:p 0=0){v:Int}(hv:v=0\/v∈o):sm (e0 (fun u=>p u-cvT l o u v)) l=sm (e0 p) l-2*p v+cvT l o v v:=by
 have a1:=aER (fun u=>p u-cvT l o u v) h
 have a2:=aER p h
 have b1:=aO4 h p0 hv
 have b2:=aO4 h (p:=fun u=>cvT l o u v) (aGu h v) hv
 rw[a1,aQl,a2,b1,b2]
theorem aSz {p:Int->Q}{x:QL}(h:0<x.w):0<=e0 p x:=by
 unfold e0
 exact aTV (by grind) (aQF _)
theorem Tie.wpos (h:Tie l o):∀ x∈l,0<x.w:=fun x hx=>(h.lk x hx).lk.1.sc.1
theorem aJe (h:Tie l o)(p:Int->Q):0<=sm (e0 p) l:=kY fun x hx=>aSz (h.wpos x hx)
theorem aDE (h:Tie l o){v:Int}(hv:v=0\/v∈o):sm (e0 (fun u=>cvT l o u v)) l=cvT l o v v:=by
 rw[aER _ h]
 exact aO4 h (p:=fun u=>cvT l o u v) (aGu h v) hv
theorem aPg:∀ ps:List PQ,app (fun _=>0) (fun _=>0) ps=0
 | []=>rfl
 | x::r=>by rw[app,aPg r];grind
theorem aKa (f:Int->Q)(ps:List PQ):app f (fun _=>0) ps=lin f ps:=by rw[aE2,aPg];grind
theorem aK8 (h:Tie l o){p:Int->Q}(p0:p 0=0)(hz:sm (e0 p) l<=0):∀ u∈o,p u=0:=by
 rw[aER p h]at hz
 have z:=aNE (f:=fun n=>n.cond.t*(rs p n*rs p n)) (l:=bX l o o []) (fun n hn=>aTV (by have:=h.tpos n hn;grind) (aQF _)) hz
 have hp:∀ n∈bX l o o [],p n.node=app p (fun _=>0) n.cond.ps:=fun n hn=>by
  have t:=h.tpos n hn
  rw[aKa]
  rcases _root_.Rat.mul_eq_zero.1 (z n hn)with g | g
  · grind
  · have:rs p n=0:=by rcases _root_.Rat.mul_eq_zero.1 g with g | g <;> exact g
    unfold rs at this;grind
 have hu:∀ (f:Int->Q),f 0=0->∀ n∈bX l o o [],∀ u∈psN n.cond,(∃ c∈bX l o o [],c.node=u)\/f u=0:=fun f f0 n hn u hu=>by
  rcases h.pin n hn u hu with g | g
  · exact .inr (by rw[g];exact f0)
  · exact .inl g
 intro u hu'
 obtain⟨c,hc,rfl⟩:=xC (l:=l) hu'
 have e1:=aH8 (fun _=>0) p (h.dn).1 hp (hu p p0) c hc
 have e2:=aH8 (fun _=>0) (fun _=>0) (h.dn).1 (fun n hn=>by rw[aPg]) (hu (fun _=>0) rfl) c hc
 rw[e1,<- e2]
def mn (a c:Q):Q:=if a<=c then a else c
end
theorem aO3 {l l':List QL}{o o':List Int}(h:Tie l o)(h':Tie l' o')(hl:l'.Perm l)(ho:o'.Perm o)(a v:Int):cvT l o a v=cvT l' o' a v:=by
 by_cases c:v∈o
 · have c':=ho.mem_iff.2 c
   have e1:=aRa h (p:=fun u=>cvT l' o' u v) (aGu h' v) (.inr c)
   have e2:=aRa h' (p:=fun u=>cvT l o u v) (aGu h v) (.inr c')
   have s1:=aDE h (.inr c)
   have s2:=aDE h' (.inr c')
   have q1:∀ f:Int->Q,sm (e0 f) l'=sm (e0 f) l:=fun f=>aPM hl
   rw[q1]at e2 s2
   rw[q1]at e2
   have n1:=aJe h (fun u=>cvT l' o' u v-cvT l o u v)
   have n2:=aJe h (fun u=>cvT l o u v-cvT l' o' u v)
   have z:=aK8 h (p:=fun u=>cvT l' o' u v-cvT l o u v) (by
    show cvT l' o' 0 v-cvT l o 0 v=0
    rw[aGu h,aGu h'];grind) (by grind)
   by_cases ca:a∈o
   · have:=z a ca;grind
   · rw[aE1 h ca,aE1 h' fun g=>ca (ho.mem_iff.1 g)]
 · rw[aMk,aE1 h c,aMk,aE1 h' fun g=>c (ho.mem_iff.1 g)]
/- The information matrix over the rational numbers. -/
def sl (f:Int->Q):List Int->Q
 | []=>0
 | u::r=>f u+sl f r
theorem vY {f g:Int->Q}:∀ {N:List Int},(∀ u∈N,f u=g u)->sl f N=sl g N
 | [],_=>rfl
 | u::r,h=>by rw[sl,sl,h u (by simp),vY fun w hw=>h w (by simp[hw])]
theorem aFk (f g:Int->Q):∀ N,sl (fun u=>f u+g u) N=sl f N+sl g N
 | []=>by simp only[sl];grind
 | u::r=>by rw[sl,sl,sl,aFk f g r];grind
theorem aES:∀ N:List Int,sl (fun _=>0) N=0
 | []=>rfl
 | u::r=>by rw[sl,aES r];grind
theorem aCB (f:Int->Q)(v:Int):∀ {N:List Int},N.Nodup->(v∈N\/f v=0)->sl (fun u=>if u=v then f u else 0) N=f v
 | [],_,h=>by rcases h with h | h;cases h;simp[sl,h]
 | u::r,hn,h=>by
  rw[aUe]at hn
  rw[sl]
  by_cases c:u=v
  · subst c
    rw[aTd rfl,vY (g:=fun _=>0) fun w hw=>aTc (fun e:w=u=>hn.1 (e▸hw)),aES]
    grind
  · rw[aTc c,aCB f v hn.2 (h.imp (fun h=>(aTf.1 h).resolve_left fun e=>c e.symm) id)]
    grind
theorem aNL (G:Int->QL->Q)(N:List Int):∀ s:List QL,sl (fun u=>sm (G u) s) N=sm (fun x=>sl (fun u=>G u x) N) s
 | []=>by simp only[sm];exact aES N
 | x::s=>by
  have e:(fun u=>sm (G u) (x::s))=fun u=>G u x+sm (G u) s:=rfl
  rw[e,aFk,aNL G N s,sm]
theorem zY {f g:QL->Q}:∀ {s:List QL},(∀ x∈s,f x=g x)->sm f s=sm g s
 | [],_=>rfl
 | x::s,h=>by rw[sm,sm,h x (by simp),zY fun y hy=>h y (by simp[hy])]
theorem aLH (k:Q)(f:QL->Q):∀ l:List QL,sm (fun x=>f x*k) l=sm f l*k
 | []=>by simp[sm]
 | x::l=>by rw[sm,sm,aLH k f l];grind
def lk2 (v u:Int)(x:QL):Q:=if v=u then(if x.a=v\/x.b=v then x.w else 0)else if(x.a=v/\x.b=u)\/(x.a=u/\x.b=v)then-x.w else 0
def Lm (s:List QL)(v u:Int):Q:=sm (lk2 v u) s
theorem aP7 (v u:Int)(x:QL):lk2 v u x=lk2 u v x:=by
 by_cases c:v=u
 · subst c;rfl
 · have c':¬u=v:=fun e=>c e.symm
   unfold lk2
   simp only[c,c',aTD]
   by_cases d:(x.a=v/\x.b=u)\/(x.a=u/\x.b=v)
   · simp only[d,d.symm,aTz]
   · have d':¬((x.a=u/\x.b=v)\/(x.a=v/\x.b=u)):=fun h=>d h.symm
     simp only[d,d',aTD]
theorem aR0 (s:List QL)(v u:Int):Lm s v u=Lm s u v:=zY fun x _=>aP7 v u x
def gr2 (p:Int->Q)(v:Int)(x:QL):Q:=if v=x.a then x.w*(p x.a-p x.b)else if v=x.b then x.w*(p x.b-p x.a)else 0
structure Nset (N:List Int)(s:List QL):Prop where
 nd:N.Nodup
 pos:∀ u∈N,1<=u
 lt:∀ x∈s,0<=x.a/\x.a<x.b/\0<x.w
 epz:∀ x∈s,(x.a=0\/x.a∈N)/\x.b∈N
section
variable {N:List Int}{s:List QL}
theorem aRg (h:Nset N s){x:QL}(hx:x∈s){v:Int}(hv:v∈N){p:Int->Q}(p0:p 0=0):sl (fun u=>lk2 v u x*p u) N=gr2 p v x:=by
 obtain⟨l1,l2,l3⟩:=h.lt x hx
 obtain⟨m1,m2⟩:=h.epz x hx
 have v1:=h.pos v hv
 have e:∀ u,lk2 v u x*p u=(if u=v then(if x.a=v\/x.b=v then x.w*p u else 0)else 0)+((if u=x.b then(if x.a=v then(- x.w)*p u else 0)else 0)+(if u=x.a then(if x.b=v then(- x.w)*p u else 0)else 0)):=fun u=>by
  unfold lk2
  repeat' split
  all_goals first | (exfalso;omega) | grind
 rw[vY fun u _=>e u,aFk,aFk,aCB (fun u=>if x.a=v\/x.b=v then x.w*p u else 0) v h.nd (.inl hv),aCB (fun u=>if x.a=v then(- x.w)*p u else 0) x.b h.nd (.inl m2),
  aCB (fun u=>if x.b=v then(- x.w)*p u else 0) x.a h.nd (m1.symm.imp id fun h0=>by rw[h0,p0];split <;> grind)]
 unfold gr2
 by_cases d1:v=x.a
 · subst d1
   repeat' split
   all_goals first | (exfalso;omega) | grind
 · by_cases d2:v=x.b
   · subst d2
     repeat' split
     all_goals first | (exfalso;omega) | grind
   · repeat' split
     all_goals first | (exfalso;omega) | grind
theorem aPr (h:Nset N s){v:Int}(hv:v∈N){p:Int->Q}(p0:p 0=0):sl (fun u=>Lm s v u*p u) N=sm (gr2 p v) s:=by
 have e:(fun u=>Lm s v u*p u)=fun u=>sm (fun x=>lk2 v u x*p u) s:=funext fun u=>by rw[aLH];rfl
 rw[e,aNL]
 exact zY fun x hx=>aRg h hx hv p0
theorem aMt (h:Nset N s){p q:Int->Q}(p0:p 0=0)(q0:q 0=0):sl (fun v=>q v*sl (fun u=>Lm s v u*p u) N) N=sm (fun x=>x.w*((q x.b-q x.a)*(p x.b-p x.a))) s:=by
 have e:sl (fun v=>q v*sl (fun u=>Lm s v u*p u) N) N=sl (fun v=>sm (fun x=>q v*gr2 p v x) s) N:=vY fun v hv=>by
  rw[aPr h hv p0,<- aFj]
 rw[e,aNL]
 refine zY fun x hx=>?_
 obtain⟨l1,l2,l3⟩:=h.lt x hx
 obtain⟨m1,m2⟩:=h.epz x hx
 have e2:∀ v,q v*gr2 p v x=(if v=x.a then q v*(x.w*(p x.a-p x.b))else 0)+(if v=x.b then q v*(x.w*(p x.b-p x.a))else 0):=fun v=>by
  unfold gr2
  repeat' split
  all_goals first | (exfalso;omega) | grind
 rw[vY fun v _=>e2 v,aFk,aCB (fun v=>q v*(x.w*(p x.a-p x.b))) x.a h.nd (m1.symm.imp id fun h0=>by rw[h0,q0];grind),aCB (fun v=>q v*(x.w*(p x.b-p x.a))) x.b h.nd (.inl m2)]
 grind
end
/- Dense elimination starts well; what solves the normal equations is the solution. -/
theorem aNB (f:Int->Q):∀ (N pre:List Int),su (fun j=>f ((pre++N).getD j 0)) pre.length N.length=sl f N
 | [],_=>rfl
 | u::r,pre=>by
  have ih:=aNB f r (pre++[u])
  rw[aTF,aTY,aTx]at ih
  rw[aTG,su,sl]
  have e:(pre++u::r).getD pre.length 0=u:=by simp[aTt]
  rw[e]
  congr 1
theorem aRd (f:Int->Q)(N:List Int):su (fun j=>f (N.getD j 0)) 0 N.length=sl f N:=aNB f N []
theorem wF {N:List Int}{i:Nat}(h:i<N.length):N.getD i 0∈N:=by
 rw[aTt,aTl h]
 exact aTv h
theorem aMc {N:List Int}(hn:N.Nodup){i j:Nat}(hi:i<N.length)(hj:j<N.length)(h:i≠j):N.getD i 0≠N.getD j 0:=by
 rw[aTt,aTt,aTl hi,aTl hj]
 intro e
 have e:N[i]=N[j]:=e
 rcases Nat.lt_or_gt_of_ne h with c | c
 · exact(aU2.1 hn) i j hi hj c e
 · exact(aU2.1 hn) j i hj hi c e.symm
def sP (N:List Int)(x:Nat->Q)(u:Int):Q:=if u∈N then x (N.idxOf u)else 0
theorem aC8 {N:List Int}(hn:N.Nodup)(x:Nat->Q){i:Nat}(hi:i<N.length):sP N x (N.getD i 0)=x i:=by
 unfold sP
 rw[aTd (wF hi)]
 congr 1
 rw[aTt,aTl hi]
 exact hn.idxOf_getElem i hi
section
variable {N:List Int}{s:List QL}
theorem aIw (h:Nset N s)(x:Nat->Q):sP N x 0=0:=by
 unfold sP
 rw[aTc fun h0=>by have:=h.pos 0 h0;omega]
theorem aRs (h:Nset N s){v u:Int}(hne:v≠u){x:QL}(hx:x∈s):lk2 v u x<=0:=by
 have:=(h.lt x hx).2.2
 unfold lk2
 rw[aTc hne]
 split <;> grind
theorem aR1 (h:Nset N s){v u:Int}(hne:v≠u):Lm s v u<=0:=by
 have:=kY (f:=fun x=>(-1)*lk2 v u x) (l:=s) fun x hx=>by have:=aRs h hne hx;grind
 rw[aFj]at this
 unfold Lm;grind
theorem aQu (h:Nset N s)(hw:sm wt s<=72)(v:Int):Lm s v v<=72:=by
 have:=aNI (f:=lk2 v v) (g:=wt) (l:=s) fun x hx=>by
  have:=(h.lt x hx).2.2
  unfold lk2 wt
  rw[aTd rfl]
  split <;> grind
 unfold Lm;grind
theorem aQs (h:Nset N s){v:Int}(hv:v∈N):0<=sl (fun u=>Lm s v u) N:=by
 have e:=aPr h hv (p:=fun u=>if u=0 then 0 else 1) (by simp)
 have e2:sl (fun u=>Lm s v u*(if u=0 then(0:Q)else 1)) N=sl (fun u=>Lm s v u) N:=vY fun u hu=>by
  rw[aTc (by have:=h.pos u hu;omega)];grind
 rw[<- e2,e]
 refine kY fun x hx=>?_
 obtain⟨l1,l2,l3⟩:=h.lt x hx
 have v1:=h.pos v hv
 unfold gr2
 have b0:¬x.b=0:=by omega
 simp only[b0,aTD]
 by_cases c:v=x.a
 · rw[aTd c,aTc (by omega)];grind
 · rw[aTc c]
   by_cases d:v=x.b
   · rw[aTd d]
     split <;> grind
   · rw[aTc d];grind
end
theorem aEX (p:Int->Q){l:List QL}:(∀ x∈l,0<x.w)->sm (e0 p) (aR l [] 0).1=sm (e0 p) l:=by
 have gen:∀ (l s:List QL) (e:Q),(∀ x∈l,0<x.w)->(∀ x∈s,0<x.w)->sm (e0 p) (aR l s e).1=sm (e0 p) s+sm (e0 p) l:=by
  intro l
  induction l with
  | nil=>intro s e _ _;simp only[aR,sm];grind
  | cons x l ih =>
   intro s e hl hs
   have hx:=hl x (by simp)
   rw[aR,ih _ _ (fun y hy=>hl y (by simp[hy])) (aBL s x hs hx),aDy (f:=e0 p) (fun k l ha hb _ _=>by
    unfold e0 mrg
    simp only[]
    rw[ha,hb];grind) s x hs hx,sm]
   grind
 intro hl
 have:=gen l [] 0 hl (by simp)
 rw[this]
 simp only[sm];grind
theorem Tie.nset {l:List QL}{o:List Int}(h:Tie l o){N:List Int}(hn:N.Nodup)(hm:∀ u,u∈N↔u∈o):Nset N (aR l [] 0).1 where
 nd:=hn
 pos:=fun u hu=>(h.five u ((hm u).1 hu)).1
 lt:=fun x hx=>by
  obtain⟨y,hy,e1,e2⟩:=pW l [] 0 x hx
  have:=(h.lk y (hy.resolve_left (by simp))).1
  exact⟨by omega,by omega,aDY l [] 0 h.wpos (by simp) x hx⟩
 epz:=fun x hx=>by
  obtain⟨y,hy,e1,e2⟩:=pW l [] 0 x hx
  have hy:=hy.resolve_left (by simp)
  have hl:=(h.lk y hy).1
  rw[<- e1,<- e2]
  refine⟨?_,(hm _).2 ((h.mem _).2 ⟨by omega,y,hy,.inr rfl⟩)⟩
  by_cases c:y.a=0
  · exact .inl c
  · exact .inr ((hm _).2 ((h.mem _).2 ⟨by omega,y,hy,.inl rfl⟩))
section
variable {l:List QL}{o N:List Int}
theorem aOM (h:Tie l o)(hn:N.Nodup)(hm:∀ u,u∈N↔u∈o){A:Nat->Nat->Q}(hA:∀ i j,i<N.length->j<N.length->A i j=Lm (aR l [] 0).1 (N.getD i 0) (N.getD j 0)):GJ N.length 0 A:=by
 have ns:=h.nset hn hm
 have hw:sm wt (aR l [] 0).1<=72:=by
  have e:∀ (l s:List QL) (e:Q),(∀ x∈l,0<x.w)->(∀ x∈s,0<x.w)->sm wt (aR l s e).1=sm wt s+sm wt l:=by
   intro l
   induction l with
   | nil=>intro s e _ _;simp only[aR,sm];grind
   | cons x l ih =>
    intro s e hl hs
    have hx:=hl x (by simp)
    rw[aR,ih _ _ (fun y hy=>hl y (by simp[hy])) (aBL s x hs hx),aDy (f:=wt) (fun k l _ _ _ _=>aKR k l) s x hs hx,sm]
    grind
  rw[e l [] 0 h.wpos (by simp)]
  have:=h.base.hw
  simp only[sm];grind
 refine⟨fun i j _ hj=>by omega,fun i j _ hi _ hj=>?_,fun i j _ hi _ hj hne=>?_,fun i _ hi=>?_,fun i _ hi=>?_,fun i j hi _ _=>by omega,fun i hi=>by omega,fun x hx i hi=>?_⟩
 · rw[hA i j hi hj,hA j i hj hi,aR0]
 · rw[hA i j hi hj]
   exact aR1 ns (aMc hn hi hj hne)
 · rw[hA i i hi hi]
   exact aQu ns hw _
 · rw[aUU,qX (g:=fun j=>Lm (aR l [] 0).1 (N.getD i 0) (N.getD j 0)) (fun j _ hj=>hA i j hi (by omega)),aRd (fun u=>Lm (aR l [] 0).1 (N.getD i 0) u)]
   exact aQs ns (wF hi)
 · have p0:=aIw ns x
   have rows:∀ v∈N,sl (fun u=>Lm (aR l [] 0).1 v u*sP N x u) N=0:=fun v hv=>by
    obtain⟨k,hk,rfl⟩:=aVb hv
    have ek:N[k]=N.getD k 0:=by rw[aTt,aTl hk];rfl
    rw[ek,<- aRd (fun u=>Lm (aR l [] 0).1 (N.getD k 0) u*sP N x u)]
    have hk0:su (fun j=>A k j*x j) 0 N.length=0:=hx k hk
    refine Eq.trans ?_ hk0
    exact qX fun j _ hj=>by rw[aC8 hn x (by omega),hA k j hk (by omega)]
   have f:=aMt ns p0 p0
   rw[vY (g:=fun _=>0) (fun v hv=>by rw[rows v hv];grind),aES]at f
   have e:=aEX (sP N x) h.wpos
   have:sm (e0 (sP N x)) (aR l [] 0).1=0:=f.symm
   rw[this]at e
   have z:=aK8 h p0 (by rw[<- e];grind)
   have hmem:N.getD i 0∈o:=(hm _).1 (wF hi)
   rw[<- aC8 hn x hi]
   exact z _ hmem
end
def aSZ (g:QL->Q)(v:Int)(x:QL):Q:=if v=x.b then x.w*g x else if v=x.a then-(x.w*g x)else 0
/- Dense elimination: all its numbers have few digits. -/
structure GB (n m T M:Nat)(A:Nat->Nat->Q):Prop where
 pos:0<T
 dv:∀ i j,i<n->j<m->Dv T (A i j)
 bd:∀ i j,i<n->j<m->bd M (A i j)
theorem GJ.col {n k:Nat}{A:Nat->Nat->Q}(h:GJ n k A)(hk:k<n){i:Nat}(hi:i<n):Go.Ev.bd 72 (A i k):=by
 have e72:((72:Nat):Q)=72:=rfl
 unfold Go.Ev.bd
 rw[e72]
 by_cases c:i<k
 · have t:=h.tsum i c
   have np:∀ j,k<=j->j<k+(n-k)->A i j<=0:=fun j h1 h2=>h.top i j c h1 (by omega)
   have:=aNC np k (aTn _) (by omega)
   have:=np k (aTn _) (by omega)
   grind
 · have r:=h.rsum i (by omega) hi
   have d:=h.diag i (by omega) hi
   by_cases e:i=k
   · subst e
     have:=h.piv hk (by omega)
     grind
   · have o:=h.off i k (by omega) hi (aTn _) hk e
     have s:su (A i) k (n-k)<=A i k+A i i:=by
      rw[h.sum_k hk]
      have e1:n-(k+1)=(i-(k+1))+(1+(n-i-1)):=by omega
      rw[e1,aBf,aBf]
      have n1:su (A i) (k+1) (i-(k+1))<=0:=aJa fun j h1 h2=>h.off i j (by omega) hi (by omega) (by omega) (by omega)
      have n2:su (A i) (k+1+(i-(k+1))+1) (n-i-1)<=0:=aJa fun j h1 h2=>h.off i j (by omega) hi (by omega) (by omega) (by omega)
      have e2:k+1+(i-(k+1))=i:=by omega
      have e3:su (A i) (k+1+(i-(k+1))) 1=A i i:=by rw[e2];simp only[su];grind
      rw[e3]
      grind
     grind
theorem GB.step {n m k T M:Nat}{A:Nat->Nat->Q}(h:GB n m T M A)(g:GJ n k A)(hk:k<n)(hnm:n<=m) :
 ∃ z:Nat,0<z/\z<=72*T/\GB n m (z*T) (73*M*T+M) (gj k A)/\(∀ j,j<m->Dv z (A k j / A k k)/\Go.Ev.bd (M*T) (A k j / A k k))/\∀ i j,i<n->j<m->Dv (z*T) (A k j / A k k*A i k)/\Go.Ev.bd (M*T*72) (A k j / A k k*A i k):=by
 have hp:=g.piv hk (by omega)
 have hT:(0:Q)<(T:Q):=aP4 h.pos
 obtain⟨z,hz⟩:=h.dv k k hk (by omega)
 have z0:(0:Q)<(z:Q):=by rw[<- hz];exact aVZ hp hT
 have z1:0<z:=by
  have:((0:Int):Q)<(z:Q):=by simpa using z0
  exact aV3.1 this
 obtain⟨y,rfl⟩:∃ y:Nat,z=(y:Int):=⟨z.toNat,by omega⟩
 have hy:((y:Int):Q)=(y:Q):=rfl
 rw[hy]at hz z0
 have y1:(1:Q)<=(y:Q):=by
  have:=aFN (m:=1) (n:=y) (by omega)
  simpa using this
 have hyT:y<=72*T:=by
  have d:=g.diag k (aTn _) hk
  have:(y:Q)<=((72*T:Nat):Q):=by
   rw[<- hz,aUi]
   exact aU5 d (by grind)
  exact aVd.1 this
 have row:∀ j,j<m->Dv y (A k j / A k k)/\Go.Ev.bd (M*T) (A k j / A k k):=fun j hj=>by
  constructor
  · obtain⟨x,hx⟩:=h.dv k j hk hj
    refine⟨x,?_⟩
    rw[<- hx,<- hz]
    grind
  · have b:=h.bd k j hk hj
    have iT:1<=A k k*(T:Q):=by rw[hz];exact y1
    have mn:=sG M
    refine aCO hp ?_ ?_
    · rw[aUi]
      have:=aTV mn (b:=A k k*(T:Q)-1) (by grind)
      have b1:=b.1
      grind
    · rw[aUi]
      have:=aTV mn (b:=A k k*(T:Q)-1) (by grind)
      have b2:=b.2
      grind
 have prod:∀ i j,i<n->j<m->Dv (y*T) (A k j / A k k*A i k)/\Go.Ev.bd (M*T*72) (A k j / A k k*A i k):=fun i j hi hj =>
  ⟨yH (row j hj).1 (h.dv i k hi (by omega)),qU (row j hj).2 (g.col hk hi)⟩
 refine⟨y,by omega,hyT,⟨aTW (by omega) h.pos,fun i j hi hj=>?_,fun i j hi hj=>?_⟩,row,prod⟩
 · by_cases c:i=k
   · rw[c,aGi];exact rV T (row j hj).1
   · rw[zC c,aTR]
     exact zW (rV y (h.dv i j hi hj)) (by rw[aTR];exact(prod i j hi hj).1)
 · by_cases c:i=k
   · rw[c,aGi]
     refine uJ (row j hj).2 ?_
     have:73*M*T=73*(M*T):=aT3 _ _ _
     omega
   · rw[zC c]
     refine uJ (aGB (h.bd i j hi hj) (prod i j hi hj).2) ?_
     have:73*M*T=73*(M*T):=aT3 _ _ _
     omega
def gjs (A:Nat->Nat->Q):Nat->Nat->Nat->Q
 | 0=>A
 | k+1=>gj k (gjs A k)
def TT:Nat->Nat
 | 0=>1
 | k+1=>72*TT k*TT k
def MM:Nat->Nat
 | 0=>1440
 | k+1=>73*MM k*TT k+MM k
theorem aQZ {k:Nat}(h:k<=5):TT k<=72 ^ 31/\MM k<=10 ^ 70:=by
 match k,h with
 | 0,_=>decide
 | 1,_=>decide
 | 2,_=>decide
 | 3,_=>decide
 | 4,_=>decide
 | 5,_=>decide
theorem aIJ {n m:Nat}{A:Nat->Nat->Q}(g:GJ n 0 A)(h:GB n m 1 1440 A)(hnm:n<=m):∀ k,k<=n->GJ n k (gjs A k)/\∃ T,T<=TT k/\GB n m T (MM k) (gjs A k)
 | 0,_=>⟨g,1,aTn _,h⟩
 | k+1,hk=>by
  obtain⟨g1,T,t,h1⟩:=aIJ g h hnm k (by omega)
  obtain⟨z,_,z2,z3,_,_⟩:=h1.step g1 (by omega) hnm
  refine⟨g1.next (by omega),z*T,?_,?_⟩
  · rw[TT]
    exact aTr (aTK z2 t) (aTK (aTA _ t) (aTn _))
  · rw[gjs,MM]
    refine⟨z3.pos,z3.dv,fun i j hi hj=>uJ (z3.bd i j hi hj) ?_⟩
    have:=aTA (73*MM k) t
    omega
theorem aCL {T B:Nat}{q:Q}(hT:0<T)(h:Dv T q)(b:bd B q)(t:T<=72 ^ 31)(hB:B<=10 ^ 150):bQ q:=by
 refine aDr hT h (uJ b (Nat.le_succ B)).1 (uJ b (Nat.le_succ B)).2 (Nat.succ_pos _) ?_
 refine aUu (aTK (Nat.succ_le_succ hB) t) ?_
 rw[aLB]
 decide
structure FitK (n m k:Nat)(A:Nat->Nat->Q):Prop where
 piv:0<A k k
 a:∀ i j,i<n->j<m->bQ (A i j)
 q:∀ j,j<m->bQ (A k j / A k k)
 p:∀ i j,i<n->j<m->bQ (A k j / A k k*A i k)
 s:∀ i j,i<n->j<m->bQ (gj k A i j)
theorem aQe {n m:Nat}{A:Nat->Nat->Q}(g:GJ n 0 A)(h:GB n m 1 1440 A)(hnm:n<=m)(hn:n<=5){k:Nat}(hk:k<n):FitK n m k (gjs A k):=by
 obtain⟨g1,T,t,h1⟩:=aIJ g h hnm k (by omega)
 obtain⟨z,z1,z2,z3,z4,z5⟩:=h1.step g1 hk hnm
 obtain⟨t1,m1⟩:=aQZ (k:=k) (by omega)
 have T5:=(aQZ (k:=k+1) (by omega)).1
 have zT:z*T<=72 ^ 31:=by
  refine aTr ?_ T5
  rw[TT]
  exact aTr (aTK z2 t) (aTK (aTA _ t) (aTn _))
 have zz:z<=72 ^ 31:=aTr (aUF z h1.pos) zT
 have t2:T<=72 ^ 31:=aTr t t1
 have mt:MM k*T<=10 ^ 130:=aTr (aTK m1 t2) (by decide)
 have m2:MM k<=10 ^ 150:=aTr m1 (by decide)
 refine⟨g1.piv hk (by omega),fun i j hi hj=>aCL h1.pos (h1.dv i j hi hj) (h1.bd i j hi hj) t2 m2,fun j hj=>aCL z1 (z4 j hj).1 (z4 j hj).2 zz (aTr mt (by decide)),
  fun i j hi hj=>aCL z3.pos (z5 i j hi hj).1 (z5 i j hi hj).2 zT (aTr (aUj 72 mt) (by decide)),fun i j hi hj=>aCL z3.pos (z3.dv i j hi hj) (z3.bd i j hi hj) zT ?_⟩
 have e:73*MM k*T=73*(MM k*T):=aT3 _ _ _
 rw[e]
 have a1:73*(MM k*T)<=73*10 ^ 130:=aTA _ mt
 have a2:73*10 ^ 130+10 ^ 70<=10 ^ 150:=by decide
 omega
theorem aMb {n m:Nat}{A:Nat->Nat->Q}(g:GJ n 0 A)(h:GB n m 1 1440 A)(hnm:n<=m)(x:Nat->Q)(c:Nat):∀ k,k<=n->(Sat n (gjs A k) (fun i=>gjs A k i c) x↔Sat n A (fun i=>A i c) x)
 | 0,_=>Iff.rfl
 | k+1,hk=>by
  obtain⟨g1,_⟩:=aIJ g h hnm k (by omega)
  have:=g1.piv (by omega) (by omega)
  rw[gjs,aRD (by omega) _ x (by grind)]
  exact aMb g h hnm x c k (by omega)
theorem aQf {n m:Nat}{A:Nat->Nat->Q}(g:GJ n 0 A)(h:GB n m 1 1440 A)(hnm:n<=m)(c:Nat):Sat n A (fun i=>A i c) (fun i=>gjs A n i c):=by
 refine(aMb g h hnm _ c n (aTn _)).1 ?_
 obtain⟨g1,_⟩:=aIJ g h hnm n (aTn _)
 intro i hi
 rw[aKw _ n i hi fun j hj hne=>by rw[g1.unit i j hi hj,aTc (fun e=>hne e.symm)];grind]
 rw[g1.unit i i hi hi,aTd rfl];grind
/- Dense elimination: the program's steps are the steps over the rational numbers. -/
theorem aKV {α ρ:Type}{step:Int×List α->Option ((Int×List α) ⊕ ρ)}(P:List α->Prop)(old new:List α)(fin:List α->ρ)(hl:new.length=old.length)(hP:P old)
 (h1:∀ (k:Nat) (hk:k<old.length) (hk':k<new.length) (m:List α),P m->m.length=old.length->m[k]?=some old[k]->step ((k:Int),m)=some (.inl (((k+1:Nat):Int),m.set k new[k]))/\P (m.set k new[k]))
 (h2:∀ m:List α,m.length=old.length->step ((old.length:Int),m)=some (.inr (fin m))):lp step (0,old)=some (fin new):=by
 have main:∀ n k:Nat,n+k=old.length->P (new.take k++old.drop k)->lp step ((k:Int),new.take k++old.drop k)=some (fin new):=by
  intro n
  induction n with
  | zero =>
   intro k hk _
   have:k=old.length:=by omega
   subst this
   have e:new.take old.length++old.drop old.length=new:=by rw[<- hl,aUz,hl,aUo,aUf]
   rw[e]
   exact aK (h2 new hl)
  | succ n ih =>
   intro k hk hp
   have hlt:k<old.length:=by omega
   have ht:(new.take k).length=k:=by rw[aTS];omega
   have hm:(new.take k++old.drop k).length=old.length:=by rw[aTF,ht,aUr];omega
   have hg:(new.take k++old.drop k)[k]?=some old[k]:=by
    rw[aT0 (by omega),ht,aUV,aTh hlt];rfl
   obtain⟨e1,e2⟩:=h1 k hlt (by omega) _ hp hm hg
   have es:(new.take k++old.drop k).set k (new[k]'(by omega))=new.take (k+1)++old.drop (k+1):=by
    rw[aVp _ _ (by omega),ht,aUV,aTh hlt,aVG,<- List.take_append_getElem (l:=new) (h:=by omega),aTx,aUk]
   rw[es]at e1 e2
   rw[aQ e1]
   exact ih (k+1) (by omega) e2
 have:=main old.length 0 (by omega) (by simpa using hP)
 simpa using this
def gO (m:Nat)(f:Nat->Q):List Rat:=(List.range m).map fun j=>ofQ (f j)
def lT (n m:Nat)(A:Nat->Nat->Q):List (List Rat):=(List.range n).map fun i=>gO m (A i)
theorem gC (m:Nat)(f:Nat->Q):(gO m f).length=m:=by simp[gO]
theorem mG (n m:Nat)(A:Nat->Nat->Q):(lT n m A).length=n:=by simp[lT]
theorem aAu {m:Nat}{f:Nat->Q}{j:Nat}(h:j<(gO m f).length):(gO m f)[j]=ofQ (f j):=by simp[gO]
theorem yM {n m:Nat}{A:Nat->Nat->Q}{i:Nat}(h:i<(lT n m A).length):(lT n m A)[i]=gO m (A i):=by simp[lT]
theorem aBi {m:Nat}{f:Nat->Q}{j:Nat}(h:j<m):(gO m f)[j]?=some (ofQ (f j)):=by rw[aTl (by rw[gC];exact h),aAu]
theorem aBe {n m:Nat}{A:Nat->Nat->Q}{i:Nat}(h:i<n):(lT n m A)[i]?=some (gO m (A i)):=by rw[aTl (by rw[mG];exact h),yM]
theorem aKE {m:Nat}{f g:Nat->Q}(h:∀ j,j<m->f j=g j):gO m f=gO m g:=aVW fun j hj=>by rw[h j (aVM.1 hj)]
theorem aPX {p q:Q}(hp:bQ p)(hq:bQ q)(h:bQ (p-q)):dQ (ofQ p) (ofQ q)=some (ofQ (p-q)):=by
 have e:=(aG1 (jP hp) (jP hq)).2.1
 rw[aPp hp hq h]at e;exact e
theorem aPZ {p q:Q}(hp:bQ p)(hq:bQ q)(h0:q≠0)(h:bQ (p / q)):dA (ofQ p) (ofQ q)=some (ofQ (p / q)):=by
 have e:=(aCR (jP hp) (jP hq)).2.1
 rw[aLt hp hq h0 h]at e;exact e
theorem aNY {p:Q}(hp:bQ p)(h0:p≠0):∃ g,nQ (ofQ p)=some g/\g≠0:=by
 have hn : p.num.natAbs ≠ 0 := fun e => h0 (by have : p.num = 0 := by omega
                                               exact _root_.Rat.num_eq_zero.1 this)
 have hd:aA p.num.natAbs≠[]:=fun e=>hn (aCP.1 e)
 have hl:¬(((ofQ p).fNum.fMag.length:Int)=0):=fun e=>hd (aTq.1 (by
  have e2:(ofQ p).fNum.fMag=aA p.num.natAbs:=rfl
  rw[e2]at e;omega))
 unfold nQ
 rw[aOL hp]
 simp only[aTb,aTz]
 rw[aTe hl]
 simp only[aTk,aTD]
 by_cases c:(ofQ p).fNum.fNeg=true
 · exact⟨-1,by rw[aTd c],by omega⟩
 · exact⟨1,by rw[aTc c],by omega⟩
theorem aGh {m:Nat}{f:Nat->Q}(hm:m<=1000)(h:∀ j,j<m->bQ (f j)):nT (gO m f)=some true:=by
 have hl:=gC m f
 have main:∀ n k:Nat,n+k=m->lp (oN (gO m f)) (k:Int)=some (.inl ()):=by
  intro n
  induction n with
  | zero=>intro k hk;exact aK (by unfold oN;rw[aTc (by omega)])
  | succ n ih =>
   intro k hk
   have hlt:k<(gO m f).length:=by omega
   rw[aQ (s':=((k+1:Nat):Int))]
   · exact ih (k+1) (by omega)
   · unfold oN
     rw[aTd (by omega),aN hlt,aAu]
     simp only[aTb]
     rw[aOL (h k (by omega))]
     simp only[aTb,aTz]
     rw[wi (n:=(k:Int)+1) (by omega)];rfl
 have:=main m 0 (by omega)
 unfold nT
 rw[show((0:Nat):Int)=0 from rfl]at this
 rw[this]
 rfl
section
variable {n m k:Nat}{A:Nat->Nat->Q}
theorem aSY (h:FitK n m k A)(hk:k<n)(hnm:n<=m)(hm:m<=1000):lp (aNN ((gO m (A k)).length:Int) (ofQ (A k k))) (0,gO m (A k))=some (gO m (gj k A k)):=by
 have l1:=gC m (A k)
 have l2:=gC m (gj k A k)
 refine aKV (fun _=>True) (gO m (A k)) (gO m (gj k A k)) (fun r=>r) (by omega) trivial (fun j hj hj' r _ hr hg=>⟨?_,trivial⟩) (fun r _=>?_)
 · unfold aNN
   simp only[]
   have p0:=h.piv
   rw[aTd (by omega),kP,hg]
   simp only[aTb]
   rw[aAu,aPZ (h.a k j hk (by omega)) (h.a k k hk (by omega)) (by grind) (h.q j (by omega))]
   simp only[aTb,aJ]
   rw[wi (n:=(j:Int)+1) (by omega),lH,aAu,aGi]
   rfl
 · unfold aNN
   simp only[]
   rw[aTc (by omega)]
theorem aRc (h:FitK n m k A)(hnm:n<=m)(hm:m<=1000){i:Nat}(hi:i<n)(hk:k<n)(hik:i≠k):mS (gO m (A i)) (gO m (gj k A k)) (ofQ (A i k))=some (true,gO m (gj k A i),gO m (gj k A k)):=by
 have l1:=gC m (A i)
 have l2:=gC m (gj k A k)
 have l3:=gC m (gj k A i)
 have e:lp (jJ (gO m (A i)) (gO m (gj k A k)) (ofQ (A i k))) (0,gO m (A i))=some (gO m (gj k A i)):=by
  refine aKV (fun _=>True) (gO m (A i)) (gO m (gj k A i)) (fun r=>r) (by omega) trivial (fun j hj hj' r _ hr hg=>⟨?_,trivial⟩) (fun r _=>?_)
  · unfold jJ
    simp only[]
    have e1:gj k A i j=A i j-(A k j / A k k)*A i k:=zC hik A j
    have fs:=h.s i j hi (by omega)
    rw[e1]at fs
    rw[aTd (by omega),kP,hg,kP,aBi (f:=gj k A k) (by omega)]
    simp only[aTb]
    rw[aAu,aGi,aNZ (h.q j (by omega)) (h.a i k hi (by omega)) (h.p i j hi (by omega))]
    simp only[aTb]
    rw[aPX (h.a i j hi (by omega)) (h.p i j hi (by omega)) fs]
    simp only[aTb,aJ]
    rw[wi (n:=(j:Int)+1) (by omega),lH,aAu,e1]
    rfl
  · unfold jJ
    simp only[]
    rw[aTc (by omega)]
 unfold mS pX
 rw[e]
 simp only[aTb]
 rw[aGh hm fun j hj=>h.s i j hi hj]
 simp only[aTb]
 rw[aM ⟨by omega,trivial⟩]
 rfl
theorem aSp (h:FitK n m k A)(hk:k<n)(hnm:n<=m)(hm:m<=1000):lp (aMG (n:Int) (k:Int)) (0,(lT n m A).set k (gO m (gj k A k)))=some (lT n m (gj k A)):=by
 have lA:=mG n m A
 have lB:=mG n m (gj k A)
 have e0:((lT n m A).set k (gO m (gj k A k))).length=n:=by rw[aV6];exact lA
 refine aKV (fun W=>W[k]?=some (gO m (gj k A k))) ((lT n m A).set k (gO m (gj k A k))) (lT n m (gj k A)) (fun r=>r) (by omega) (aUZ (by omega)) (fun i hi hi' W hW hr hg=>?_) (fun r _=>?_)
 · have hin:i<n:=by omega
   by_cases c:i=k
   · subst c
     refine⟨?_,?_⟩
     · unfold aMG
       simp only[]
       rw[aTd (by omega),aTc (by omega),wi (n:=(i:Int)+1) (by omega),yM]
       have es:W.set i (gO m (gj i A i))=W:=by
        obtain⟨w1,w2⟩:=aTH.1 hW
        rw[<- w2,aV5]
       rw[es];rfl
     · rw[yM]
       exact aUZ (by omega)
   · have hg2:W[i]?=some (gO m (A i)):=by
      rw[hg,List.getElem_set_ne (fun e=>c e.symm),yM]
     refine⟨?_,?_⟩
     · unfold aMG
       simp only[]
       rw[aTd (by omega),aTd (by omega),kP,hg2,kP,hW]
       simp only[aTb]
       rw[kP,aBi (f:=A i) (by omega)]
       simp only[aTb]
       rw[aRc h hnm hm hin hk c]
       simp only[aTb]
       rw[aM trivial]
       simp only[aTb]
       rw[wi (n:=(i:Int)+1) (by omega),yM,lH,lH]
       have es:(W.set i (gO m (gj k A i))).set k (gO m (gj k A k))=W.set i (gO m (gj k A i)):=by
        have w0:(W.set i (gO m (gj k A i)))[k]?=some (gO m (gj k A k)):=by rw[aVS c];exact hW
        obtain⟨w1,w2⟩:=aTH.1 w0
        conv=>lhs;rw[<- w2]
        exact aV5 ..
       rw[es];rfl
     · rw[aVS c];exact hW
 · unfold aMG
   simp only[]
   rw[aTc (by omega)]
theorem aSo (h:FitK n m k A)(hk:k<n)(hnm:n<=m)(hm:m<=1000):aKC (n:Int) ((k:Int),lT n m A)=some (.inl (((k+1:Nat):Int),lT n m (gj k A))):=by
 have p0:=h.piv
 obtain⟨g,g1,g2⟩:=aNY (h.a k k hk (by omega)) (by grind)
 have l1:=gC m (A k)
 have l2:=gC m (gj k A k)
 unfold aKC
 simp only[]
 rw[aTd (by omega),kP,aBe hk]
 simp only[aTb]
 rw[kP,aBi (by omega)]
 simp only[aTb]
 rw[g1]
 simp only[aTb]
 rw[aM g2]
 simp only[aTb]
 rw[aSY h hk hnm hm]
 simp only[aTb]
 rw[aM (by omega)]
 simp only[aTb]
 rw[aGh hm fun j hj=>h.s k j hk hj]
 simp only[aTb]
 rw[aM trivial]
 simp only[aTb]
 rw[lH,aSp h hk hnm hm]
 simp only[aTb]
 rw[wi (n:=(k:Int)+1) (by omega)]
 rfl
end
theorem aOG {n m:Nat}{A:Nat->Nat->Q}(hn:n<=10)(hm:m<=1000)(h:∀ i j,i<n->j<m->bQ (A i j)):oX (lT n m A) (m:Int)=some true:=by
 have lA:=mG n m A
 have inner:∀ i,i<n->lp (jZ (gO m (A i))) 0=some (.inl ()):=fun i hi=>by
  have l1:=gC m (A i)
  have main:∀ r k:Nat,r+k=m->lp (jZ (gO m (A i))) (k:Int)=some (.inl ()):=by
   intro r
   induction r with
   | zero=>intro k hk;exact aK (by unfold jZ;rw[aTc (by omega)])
   | succ r ih =>
    intro k hk
    rw[aQ (s':=((k+1:Nat):Int))]
    · exact ih (k+1) (by omega)
    · unfold jZ
      rw[aTd (by omega),kP,aBi (by omega)]
      simp only[aTb]
      rw[aS0 (h i k hi (by omega))]
      simp only[aTb,aTz]
      rw[wi (n:=(k:Int)+1) (by omega)];rfl
  exact main m 0 (by omega)
 have main:∀ r k:Nat,r+k=n->lp (mY (lT n m A) (m:Int)) (k:Int)=some (.inl ()):=by
  intro r
  induction r with
  | zero=>intro k hk;exact aK (by unfold mY;rw[aTc (by omega)])
  | succ r ih =>
   intro k hk
   have l1:=gC m (A k)
   rw[aQ (s':=((k+1:Nat):Int))]
   · exact ih (k+1) (by omega)
   · unfold mY
     rw[aTd (by omega),kP,aBe (by omega)]
     simp only[aTb]
     rw[aTc (by omega),inner k (by omega)]
     simp only[aTb]
     rw[wi (n:=(k:Int)+1) (by omega)];rfl
 have e:=main n 0 (by omega)
 unfold oX
 rw[aTc (by omega)]
 rw[show((0:Nat):Int)=0 from rfl]at e
 rw[e];rfl
theorem aPW {n m:Nat}{A:Nat->Nat->Q}(g:GJ n 0 A)(h:GB n m 1 1440 A)(hnm:n<=m)(hn:n<=5)(hm:m<=1000):kZ (lT n m A) (m:Int)=some (lT n m (gjs A n),true):=by
 have lA:=mG n m A
 have lB:=mG n m (gjs A n)
 have main:∀ r k:Nat,r+k=n->lp (aKC (n:Int)) ((k:Int),lT n m (gjs A k))=some (lT n m (gjs A n)):=by
  intro r
  induction r with
  | zero =>
   intro k hk
   have e:k=n:=by omega
   subst e
   exact aK (by unfold aKC;simp only[];rw[aTc (by omega)])
  | succ r ih =>
   intro k hk
   rw[aQ (aSo (aQe g h hnm hn (k:=k) (by omega)) (by omega) hnm hm)]
   exact ih (k+1) (by omega)
 have e:=main n 0 (by omega)
 rw[show((0:Nat):Int)=0 from rfl]at e
 unfold kZ
 have f0:∀ i j,i<n->j<m->bQ (A i j):=fun i j hi hj=>aCL h.pos (h.dv i j hi hj) (h.bd i j hi hj) (by decide) (by decide)
 rw[aOG (by omega) hm f0]
 simp only[aTb]
 rw[aM ⟨trivial,by omega,by omega,fun r hr=>by
  obtain⟨i,hi,rfl⟩:=aTu.1 hr
  rw[gC];omega⟩]
 simp only[aTb]
 rw[lA]
 have e':lp (aKC (n:Int)) (0,lT n m A)=some (lT n m (gjs A n)):=e
 rw[e']
 simp only[aTb]
 rw[aM lB]
 rfl
/- The information matrix and the right sides, as the program computes them. -/
structure JS (s:List QL):Prop where
 fit:∀ x∈s,x.fit
 lk:∀ x∈s,Lk 1 20 x
 ord:s.Pairwise cU
 lt:∀ x∈s,0<=x.a/\x.a<x.b/\x.b<=9
 hw:sm wt s<=72
 len:s.length<=1000
 ls:LSet (s.map QL.toL)
theorem aOU {q:Q}(h:Dv 1 q)(b:bd 10000 q):bQ q:=aCL (T:=1) (B:=10000) (by decide) h b (by decide) (by decide)
theorem aPY {p:Q}(hp:bQ p):fR (ofQ p)=some (ofQ (-p)):=by
 have e:=(aLs (jP hp)).2.1
 rw[aRW hp]at e;exact e
section
variable {s:List QL}
theorem JS.wp (h:JS s){x:QL}(hx:x∈s):0<x.w:=(h.lk x hx).sc.1
theorem aPN (h:JS s){p r:List QL}(e:s=p++r):sm wt p<=72:=by
 have:=h.hw
 rw[e,pP]at this
 have:=kY (f:=wt) (l:=r) fun x hx=>by have:=h.wp (x:=x) (by rw[e];simp[hx]);unfold wt;grind
 grind
theorem aQJ {c:Q}(c0:0<=c){f:QL->Q}:∀ {p:List QL},(∀ x∈p,-(c*x.w)<=f x/\f x<=c*x.w)->-(c*sm wt p)<=sm f p/\sm f p<=c*sm wt p
 | [],_=>by simp only[sm];grind
 | x::p,h=>by
  have h1:=h x (by simp)
  have h2:=aQJ c0 (f:=f) (p:=p) fun y hy=>h y (by simp[hy])
  simp only[sm]
  unfold wt at *
  grind
theorem aQI {f:QL->Q}:∀ {p:List QL},(∀ x∈p,Dv 1 (f x))->Dv 1 (sm f p)
 | [],_=>by simp only[sm];exact⟨0,by simp⟩
 | x::p,h=>kS (h x (by simp)) (aQI fun y hy=>h y (by simp[hy]))
theorem aSm (h:JS s){c:Nat}{f:QL->Q}{p r:List QL}(e:s=p++r)(hc:c<=100)(hf:∀ x∈s,-((c:Q)*x.w)<=f x/\f x<=(c:Q)*x.w)(hd:∀ x∈s,Dv 1 (f x)):Dv 1 (sm f p)/\bd (72*c) (sm f p):=by
 have cn:=sG c
 obtain⟨b1,b2⟩:=aQJ cn (p:=p) (f:=f) fun x hx=>hf x (by rw[e];simp[hx])
 have w:=aPN h e
 refine⟨aQI fun x hx=>hd x (by rw[e];simp[hx]),?_⟩
 have:=aTV cn (b:=72-sm wt p) (by grind)
 unfold bd
 rw[aUi]
 have e72:((72:Nat):Q)=72:=rfl
 rw[e72]
 constructor <;> grind
theorem aRu (h:JS s)(v u:Int):∀ x∈s,(-(((1:Nat):Q)*x.w)<=lk2 v u x/\lk2 v u x<=((1:Nat):Q)*x.w):=fun x hx=>by
 have:=h.wp hx
 have e1:((1:Nat):Q)=1:=rfl
 unfold lk2
 rw[e1]
 repeat' split
 all_goals constructor <;> grind
theorem aRt (h:JS s)(v u:Int):∀ x∈s,Dv 1 (lk2 v u x):=fun x hx=>by
 have d:=(h.lk x hx).sc.2.1
 unfold lk2
 repeat' split
 · exact d
 · exact⟨0,by simp⟩
 · exact aIZ d
 · exact⟨0,by simp⟩
theorem aIW (h:JS s)(v u:Int){p r:List QL}(e:s=p++r):Dv 1 (Lm p v u)/\bd 72 (Lm p v u):=aSm h (c:=1) e (by omega) (aRu h v u) (aRt h v u)
theorem aPs (h:JS s)(v u:Int){p r:List QL}(e:s=p++r):bQ (Lm p v u):=aOU (aIW h v u e).1 (uJ (aIW h v u e).2 (by omega))
theorem aQt (h:JS s){v u:Int}(hne:v≠u){p r:List QL}{x:QL}(e:s=p++x::r)(hm:(x.a=v/\x.b=u)\/(x.a=u/\x.b=v)):Lm p v u=0:=by
 have hx:=h.lt x (by rw[e];simp)
 have z:∀ y∈p,lk2 v u y=0:=fun y hy=>by
  have hy':=h.lt y (by rw[e];simp[hy])
  have o:=h.ord
  rw[e,aUH]at o
  have l:=o.2.2 y hy x (by simp)
  unfold cU at l
  unfold lk2
  rw[aTc hne,aTc (by omega)]
 unfold Lm
 have:∀ {p:List QL},(∀ y∈p,lk2 v u y=0)->sm (lk2 v u) p=0:=by
  intro p
  induction p with
  | nil=>intro _;rfl
  | cons y p ih=>intro h;rw[sm,h y (by simp),ih fun z hz=>h z (by simp[hz])];grind
 exact this z
theorem aOI (h:JS s)(v u:Int):kK (s.map QL.toL) v u=some (ofQ (Lm s v u)):=by
 have hl:=h.len
 have main:∀ r p:List QL,s=p++r->lp (eU (s.map QL.toL) v u) ((p.length:Int),ofQ (Lm p v u))=some (ofQ (Lm s v u)):=by
  intro r
  induction r with
  | nil =>
   intro p e
   rw[aUf]at e
   subst e
   refine aK ?_
   unfold eU
   simp only[]
   rw[aTc (by rw[aTs];omega)]
  | cons x r ih =>
   intro p e
   have hlen:(s.map QL.toL).length=p.length+1+r.length:=by rw[aTs,e];simp;omega
   have hx:x∈s:=by rw[e];simp
   have lt:=h.lt x hx
   have fp:=aPs h v u e
   have e2:s=(p++[x])++r:=by rw[e];simp
   have fq:=aPs h v u e2
   have eL:Lm (p++[x]) v u=Lm p v u+lk2 v u x:=by unfold Lm;rw[pP];simp only[sm];grind
   have hg:idx (s.map QL.toL) (p.length:Int)=some x.toL:=by
    rw[kP,e,aUc,aT0 (by simp),aTs,aUV];rfl
   have fw:=(h.fit x hx).1
   refine(aQ (s':=((((p++[x]).length:Nat):Int),ofQ (Lm (p++[x]) v u))) ?_).trans (ih (p++[x]) e2)
   have hpl:(((p++[x]).length:Nat):Int)=(p.length:Int)+1:=by simp
   have hlen2:(s.map QL.toL).length<=1000:=by rw[aTs];exact hl
   unfold eU
   simp only[]
   rw[aTd (by omega),hg]
   simp only[aTb]
   have ea:x.toL.fA=x.a:=rfl
   have eb:x.toL.fB=x.b:=rfl
   have ew:x.toL.fWeight=ofQ x.w:=rfl
   rw[ea,eb,ew,wi (n:=(p.length:Int)+1) (by omega),hpl]
   by_cases c:v=u
   · subst c
     have n3:¬(x.a=v/\x.b=v):=by omega
     by_cases c1:x.a=v
     · have l1:lk2 v v x=x.w:=by unfold lk2;rw[aTd rfl,aTd (.inl c1)]
       have n2:¬x.b=v:=by omega
       rw[eL,l1]at fq ⊢
       rw[aTd rfl,aTd c1]
       simp only[aTb,aTz]
       rw[aJk fp fw fq]
       simp only[aTb]
       rw[aTd c1,aTc n2,aTd c1,aTe n2]
       simp only[aTb,aTk,aTD]
     · by_cases c2:x.b=v
       · have l1:lk2 v v x=x.w:=by unfold lk2;rw[aTd rfl,aTd (.inr c2)]
         rw[eL,l1]at fq ⊢
         rw[aTd rfl,aTc c1,aTg c2]
         simp only[aTb,aTz]
         rw[aJk fp fw fq]
         simp only[aTb]
         rw[aTc c1,aTc c1]
         simp only[aTb,aTk,aTD]
       · have l1:lk2 v v x=0:=by unfold lk2;rw[aTd rfl,aTc (by omega)]
         have l2:Lm (p++[x]) v v=Lm p v v:=by rw[eL,l1];grind
         rw[l2]
         rw[aTd rfl,aTc c1,aTe c2]
         simp only[aTb,aTk,aTD]
         rw[aTc c1,aTc c1]
         simp only[aTb,aTk,aTD]
   · rw[aTc c]
     simp only[aTb,aTk,aTD]
     by_cases hm:(x.a=v/\x.b=u)\/(x.a=u/\x.b=v)
     · have l1:lk2 v u x=- x.w:=by unfold lk2;rw[aTc c,aTd hm]
       have l2:Lm (p++[x]) v u=- x.w:=by rw[eL,l1,aQt h c e hm];grind
       rw[l2]
       have d:((if x.a=v then(if x.b=u then some true else(if x.a=u then some (decide (x.b=v))else some false))else(if x.a=u then some (decide (x.b=v))else some false)):Option Bool)=some true:=by
        rcases hm with⟨h1,h2⟩ | ⟨h1,h2⟩
        · rw[aTd h1,aTd h2]
        · rw[aTc (by omega),aTd h1,aTg h2]
       rw[d]
       simp only[aTb,aTz]
       rw[aPY fw]
       rfl
     · have l1:lk2 v u x=0:=by unfold lk2;rw[aTc c,aTc hm]
       have l2:Lm (p++[x]) v u=Lm p v u:=by rw[eL,l1];grind
       rw[l2]
       have d:((if x.a=v then(if x.b=u then some true else(if x.a=u then some (decide (x.b=v))else some false))else(if x.a=u then some (decide (x.b=v))else some false)):Option Bool)=some false:=by
        by_cases h1:x.a=v
        · rw[aTd h1,aTc (by omega)]
          by_cases h2:x.a=u
          · omega
          · rw[aTc h2]
        · rw[aTc h1]
          by_cases h2:x.a=u
          · rw[aTd h2,aTe (by omega)]
          · rw[aTc h2]
       rw[d]
       simp only[aTb,aTk,aTD]
 have m:=main s [] rfl
 have z:Lm [] v u=0:=rfl
 rw[z]at m
 unfold kK
 rw[cO 0 (by omega),aAo]
 simp only[aTb]
 have m':lp (eU (s.map QL.toL) v u) (0,ofQ 0)=some (ofQ (Lm s v u)):=m
 rw[m']
 rfl
end
/- Dense systems, solved by the program. -/
theorem aJg (m c:Nat)(f:Nat->Q):gO m f++gO c (fun j=>f (m+j))=gO (m+c) f:=by
 unfold gO
 rw[List.range_add,aUc,aUK]
 rfl
section
variable {s:List QL}
abbrev nds (s:List QL):List Int:=fE (s.map QL.toL)
def Mx (s:List QL)(i j:Nat):Q:=Lm s ((nds s).getD i 0) ((nds s).getD j 0)
def Vx (g:QL->Q)(s:List QL)(i:Nat):Q:=sm (aSZ g ((nds s).getD i 0)) s
theorem JS.ils (h:JS s):fI (s.map QL.toL)=some true:=by
 rw[aDB _ (by have:=h.ls.sz;omega),aTg h.ls]
theorem JS.nds_i (h:JS s):jQ (s.map QL.toL)=some (nds s):=aHv (by have:=h.len;rw[aTs];omega)
theorem aIy {i:Nat}(hi:i<(nds s).length):idx (nds s) (i:Int)=some ((nds s).getD i 0):=by
 rw[aN hi,aTt,aTl hi];rfl
theorem aLv (h:JS s)(i j:Nat):Dv 1 (Mx s i j)/\bd 72 (Mx s i j)/\bQ (Mx s i j):=by
 obtain⟨a,b⟩:=aIW h ((nds s).getD i 0) ((nds s).getD j 0) (p:=s) (r:=[]) (by simp)
 exact⟨a,b,aOU a (uJ b (by omega))⟩
theorem aMZ (h:JS s):gJ (s.map QL.toL)=some (lT (nds s).length (nds s).length (Mx s)):=by
 have nl:(nds s).length<=9:=xL (s.map QL.toL)
 have row:∀ i,i<(nds s).length->lp (eF (s.map QL.toL) (nds s) ((nds s).getD i 0)) (0,[])=some (gO (nds s).length (Mx s i)):=fun i hi=>by
  have rl:=gC (nds s).length (Mx s i)
  refine rN (gO (nds s).length (Mx s i)) (fun k t=>((k:Int),t)) (fun r=>r) (fun k t hk ht=>?_) (fun t ht=>?_)
  · unfold eF
    simp only[]
    rw[aTd (by omega),aIy (by omega)]
    simp only[aTb]
    rw[aOI h]
    simp only[aTb]
    rw[aM (by omega)]
    simp only[aTb,aJ]
    rw[wi (n:=(k:Int)+1) (by omega),aAu]
    rfl
  · unfold eF
    simp only[]
    rw[aTc (by omega)]
 have tl:=mG (nds s).length (nds s).length (Mx s)
 have m:lp (eC (s.map QL.toL) (nds s)) (0,[])=some (.inl (lT (nds s).length (nds s).length (Mx s))):=by
  refine rN (lT (nds s).length (nds s).length (Mx s)) (fun k t=>((k:Int),t)) (fun r=>(Sum.inl r:List (List Rat) ⊕ List (List Rat))) (fun k t hk ht=>?_) (fun t ht=>?_)
  · unfold eC
    simp only[]
    rw[aTd (by omega),aIy (by omega)]
    simp only[aTb]
    rw[row k (by omega)]
    simp only[aTb]
    rw[aGh (by omega) fun j _=>(aLv h k j).2.2]
    simp only[aTb,aTz]
    rw[aM (by omega)]
    simp only[aTb,aJ]
    rw[wi (n:=(k:Int)+1) (by omega),yM]
    rfl
  · unfold eC
    simp only[]
    rw[aTc (by omega)]
 unfold gJ
 rw[h.ils]
 simp only[aTb,aTz]
 rw[h.nds_i]
 simp only[aTb]
 rw[m]
 rfl
end
def ext (n:Nat)(A:Nat->Nat->Q)(b:Nat->Q):Nat->Nat->Q:=fun i j=>if j<n then A i j else b i
/- The dense solution is the tree's. -/
abbrev jn (l:List QL):List QL:=(aR l [] 0).1
section
variable {l:List QL}{o:List Int}
theorem aP9 (h:Tie l o):sm wt (jn l)<=72:=by
 have e:∀ (l s:List QL) (e:Q),(∀ x∈l,0<x.w)->(∀ x∈s,0<x.w)->sm wt (aR l s e).1=sm wt s+sm wt l:=by
  intro l
  induction l with
  | nil=>intro s e _ _;simp only[aR,sm];grind
  | cons x l ih =>
   intro s e hl hs
   have hx:=hl x (by simp)
   rw[aR,ih _ _ (fun y hy=>hl y (by simp[hy])) (aBL s x hs hx),aDy (f:=wt) (fun k l _ _ _ _=>aKR k l) s x hs hx,sm]
   grind
 show sm wt (aR l [] 0).1<=72
 rw[e l [] 0 h.wpos (by simp)]
 have:=h.base.hw
 simp only[sm];grind
theorem Tie.js (h:Tie l o):JS (jn l):=by
 obtain⟨j1,j2,j3,_⟩:=h.base.join
 have ls:=(aBz j1).2.1
 have ll:=ls.len
 rw[aTs]at ll
 refine⟨fun x hx=>(j2 x hx).1,fun x hx=>(j2 x hx).2.1,j3,fun x hx=>?_,aP9 h,by show(aR l [] 0).1.length<=1000;omega,ls⟩
 obtain⟨a,b,c⟩:=(j2 x hx).2.2
 have r:∀ u,u∈(0::o)->0<=u/\u<=9:=fun u hu=>by
  rcases aTf.1 hu with rfl | hu
  · omega
  · have:=h.base.h1 u hu;omega
 exact⟨(r _ a).1,c,(r _ b).2⟩
theorem Tie.ndsP (h:Tie l o):(nds (jn l)).Perm o:=by
 obtain⟨a,b,c⟩:=h.isOrd
 exact aIs a b (Nat.le_of_eq c.symm)
theorem Tie.nds5 (h:Tie l o):(nds (jn l)).length<=5:=by
 have:=h.ndsP.length_eq
 have:=h.base.len
 omega
def Rg (g:QL->Q)(s:List QL):Nat->Nat->Q:=ext (nds s).length (Mx s) (Vx g s)
def px (g:QL->Q)(s:List QL)(i:Nat):Q:=gjs (Rg g s) (nds s).length i (nds s).length
theorem Tie.gj0 (h:Tie l o){A:Nat->Nat->Q}(hA:∀ i j,j<(nds (jn l)).length->A i j=Mx (jn l) i j):GJ (nds (jn l)).length 0 A :=
 aOM h (qH _) (fun u=>h.ndsP.mem_iff) fun i j _ hj=>hA i j hj
end
section
variable {l:List QL}{o:List Int}
end
/- What an inserted link changes lies in the list: done. -/
/- Inserting a link: the program alone. -/
/- The law of inserting. -/
/- A link taken away: which nodes stay as they are. -/
section
variable {l l2:List QL}{o e:List Int}{k:QL}{L:Int->Prop}
end
/- Deleting a link: what the program yields; what changes. -/
section
variable {l A B:List QL}{o:List Int}{k:QL}
end
/- The law of deleting. -/
end Go.Ev
