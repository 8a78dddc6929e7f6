/- Parts PS2, PS3, PT1, P22b, PT2, VB, VC, PT3, VD, VE, PT4, VF, VG, VH, VI, VJ, VK, VL, VS, VP, VT, VU, VW, DA, VX, VY, VZ, CA, CB, DB, DC. -/
import Derived.Test.YtlhoochohnnepaaGreatPb3
import Derived.Test.YtlhoochohnnepaaGreatPb1
import Derived.Test.YtlhoochohnnepaaGreatPb2
import Derived.Test.YtlhoochohnnepaaGreatPa1
set_option linter.all false
set_option maxHeartbeats 4000000
set_option maxRecDepth 20000
/- Paths of a tree end: what a tree's node hands up lies later in the order. -/
namespace Go.Ev
def pr (s:List Link)(x y:Int):Prop:=∃ l∈s,l.fA=x/\l.fB=y
theorem aI3 {a b:List Link}{x y:Int}:pr (a++b) x y↔pr a x y\/pr b x y:=by
 unfold pr
 constructor
 · rintro⟨l,h,e⟩
   rcases aTR.1 h with h | h
   · exact .inl ⟨l,h,e⟩
   · exact .inr ⟨l,h,e⟩
 · rintro(⟨l,h,e⟩ | ⟨l,h,e⟩)
   · exact⟨l,aUC _ h,e⟩
   · exact⟨l,aUE _ h,e⟩
theorem aFI {a:List Link}{l:Link}{x y:Int}:pr (l::a) x y↔(l.fA=x/\l.fB=y)\/pr a x y:=by
 unfold pr;simp only[aTM,exists_eq_or_imp]
theorem aOA {x y:Int}:¬pr [] x y:=by rintro⟨l,h,_⟩;cases h
theorem aQ9 {s:List Link}{l:Link}{s':List Link}{e:Rat}(h:aBn s l=some (s',e))(x y:Int):pr s' x y↔pr s x y\/(l.fA=x/\l.fB=y):=by
 have ins:∀ p,pr (s.take p++[l]++s.drop p) x y↔pr s x y\/(l.fA=x/\l.fB=y):=by
  intro p
  have e1:pr s x y↔pr (s.take p) x y\/pr (s.drop p) x y:=by rw[<- aI3,aUx]
  rw[e1,aT0,aI3,aUP,aFI]
  constructor
  · rintro(h | h | h)
    · exact .inl (.inl h)
    · exact .inr h
    · exact .inl (.inr h)
  · rintro((h | h) | h)
    · exact .inl h
    · exact .inr (.inr h)
    · exact .inr (.inl h)
 unfold aBn at h
 by_cases c:eB l s<s.length
 · rw[aVU c]at h
   by_cases c2:fI l s[eB l s]
   · rw[aTK c2]at h;cases h;exact ins _
   · rw[aTJ c2]at h
     have nl:=aCs l s c
     have hA:s[eB l s].fA=l.fA/\s[eB l s].fB=l.fB:=by unfold fI at c2 nl;omega
     by_cases O:zW s[eB l s] l
     · rw[aTK O]at h;cases h
       have e1:pr s x y↔pr (s.take (eB l s)) x y\/((s[eB l s].fA=x/\s[eB l s].fB=y)\/pr (s.drop (eB l s+1)) x y):=by
        rw[<- aFI,<- aTQ c,<- aI3,aUx]
       rw[e1,aT0,aI3,aUP,aFI]
       have e2:(aBA s[eB l s] l).fA=s[eB l s].fA:=rfl
       have e3:(aBA s[eB l s] l).fB=s[eB l s].fB:=rfl
       rw[e2,e3,hA.1,hA.2]
       constructor
       · rintro(h | h | h)
         · exact .inl (.inl h)
         · exact .inr h
         · exact .inl (.inr (.inr h))
       · rintro((h | h | h) | h)
         · exact .inl h
         · exact .inr (.inl h)
         · exact .inr (.inr h)
         · exact .inr (.inl h)
     · rw[aTJ O]at h;cases h
 · rw[aVV c]at h;cases h;exact ins _
theorem aKi:∀ (l s:List Link) (e:Rat) (s':List Link) (e':Rat),vH l s e=some (s',e')->∀ x y,pr s' x y↔pr s x y\/pr l x y
 | [],s,e,s',e',h,x,y=>by
  rw[vH]at h;cases h
  exact⟨.inl,fun h=>h.elim id (fun h=>(aOA h).elim)⟩
 | a::r,s,e,s',e',h,x,y=>by
  rw[vH]at h
  cases ha:aBn s a with
  | none=>rw[ha]at h;cases h
  | some t =>
   obtain⟨s1,e1⟩:=t
   rw[ha]at h
   simp only[]at h
   by_cases c:bM (RA e e1)
   · rw[aTK c]at h
     rw[aKi r s1 _ s' e' h x y,aQ9 ha,aFI,or_assoc]
   · rw[aTJ c]at h;cases h
theorem aPa {l s:List Link}{e:Rat}(h:jnP l=some (s,e))(x y:Int):pr s x y↔pr l x y:=by
 unfold jnP at h
 by_cases c:∀ x∈l,ValidL x
 · rw[aTK c]at h
   rw[aKi l [] _ s e h x y]
   exact⟨fun h=>h.elim (fun h=>(aOA h).elim) id,.inr⟩
 · rw[aTJ c]at h;cases h
def adj (s:List Link)(x y:Int):Prop:=pr s x y\/pr s y x
def en (s:List Link)(x:Int):Prop:=∃ y,adj s x y
structure PathN (o:List Int)(n:TreeNode):Prop where
 near:∀ x,en n.fMessages x->x∈aGu n.fCond
 clq:∀ x y,x∈aGu n.fCond->y∈aGu n.fCond->x<y->pr n.fMessages x y
 late:∀ i (h:i<o.length),o[i]=n.fNode->∀ p∈aGu n.fCond,p∉o.take (i+1)
/- Trees in another order, and the nodes that a change affects: both programs, and the laws. -/
/- The law of building a tree; inserting a link, both programs, and the law. -/
/- Cliques: their nodes in order. -/
/- Deleting a link, both programs, and the law. -/
theorem aJ0 {s u:List Link}{e:Rat}(h:jnP s=some (u,e)):fF u=fF s:=by
 refine aAT (yK u) (yK s) fun x=>?_
 have h1:∀ (a b:List Link),(∀ x y,pr a x y->pr b x y)->(∃ l∈a,l.fA=x\/l.fB=x)->∃ l∈b,l.fA=x\/l.fB=x:=by
  rintro a b hab ⟨l,hl,c⟩
  obtain⟨m,hm,e1,e2⟩:=hab l.fA l.fB ⟨l,hl,rfl,rfl⟩
  exact⟨m,hm,by rw[e1,e2];exact c⟩
 rw[aA6,aA6]
 exact⟨fun⟨a,b⟩=>⟨a,h1 u s (fun x y=>(aPa h x y).1) b⟩,fun⟨a,b⟩=>⟨a,h1 s u (fun x y=>(aPa h x y).2) b⟩⟩
/- Trees that are drawn. -/
theorem LinkL.tie {n:Int}{l:List QL}(h:LinkL n l){o:List Int}(nd:o.Nodup)(hm:∀ u,u∈o↔u∈fF (l.map QL.toL)):Tie l o:=by
 refine aN1 h.each (by have:=h.len;omega) h.all nd fun u=>?_
 rw[hm,aGH]
 constructor
 · rintro⟨h1,z,hz,ht⟩
   obtain⟨y,hy,rfl⟩:=aT5.1 hz
   exact⟨h1.1,y,hy,ht⟩
 · rintro⟨h1,y,hy,ht⟩
   have:=(h.each y hy).1.1
   exact⟨by omega,y.toL,aU9 hy,ht⟩
theorem LinkL.tie0 {n:Int}{l:List QL}(h:LinkL n l):Tie l (fF (l.map QL.toL)):=h.tie (oC _) fun _=>Iff.rfl
theorem Base.valid {l:List QL}{o:List Int}(hb:Base l o):∀ x∈l.map QL.toL,ValidL x:=by
 intro x hx
 have:=hb.join.1
 exact(aB4 this).1 x hx
theorem Tie.sz {l:List QL}{o:List Int}(h:Tie l o):aK (l.map QL.toL)<=2000:=by
 have h1:=aCn h.base.valid
 rw[aTZ]at h1
 have:=h.len
 omega
theorem Tie.join {l:List QL}{o:List Int}(h:Tie l o):∃ s e,jnP (l.map QL.toL)=some (s,e)/\LSet s/\fF s=fF (l.map QL.toL):=by
 have h1:=h.base.join.1
 exact⟨_,_,h1,(aB4 h1).2.1,aJ0 h1⟩
theorem aOG (c:l01Cur)(s:List Int)(hs:s.length<=9):∀ (m k:Nat) (a:List Int) (fi fh:Int),m+k=s.length->rO ⟨c.fb,fi,fh⟩->a.Perm (s.take k)->
 ∃ (a':List Int) (fi' fh':Int),lp (oQ c s) ((k:Int),a,fi,fh)=some (a',fi',fh')/\rO ⟨c.fb,fi',fh'⟩/\a'.Perm s:=by
 intro m
 induction m with
 | zero =>
  intro k a fi fh hm hc hp
  refine⟨a,fi,fh,aJ ?_,hc,by rw[aUz (by omega)]at hp;exact hp⟩
  unfold oQ
  simp only[]
  rw[aTJ (by omega)]
 | succ m ih =>
  intro k a fi fh hm hc hp
  have hlt:k<s.length:=by omega
  have hl:a.length=k:=by rw[hp.length_eq,aUo];omega
  obtain⟨r,a1,b1,c1,d1⟩:=sD ⟨c.fb,fi,fh⟩ ((k:Int)+1) hc (by omega)
  have e1:sub a 0 r.1=some (a.take r.1.toNat):=by rw[qC _ _ _ (by omega)];simp
  have e2:sub a r.1 (a.length:Int)=some (a.drop r.1.toNat):=by
   rw[qC _ _ _ (by omega),aUz (by rw[aUR];omega)]
  have t1:(a.take r.1.toNat).length<=9:=by rw[aUo];omega
  have t2:(a.drop r.1.toNat).length<=9:=by rw[aUR];omega
  have st:oQ c s ((k:Int),a,fi,fh)=some (.inl (((k+1:Nat):Int),a.take r.1.toNat++[s[k]]++a.drop r.1.toNat,r.2.fi,r.2.fh)):=by
   unfold oQ
   simp only[]
   rw[aTK (by omega),aM hlt]
   simp only[aTI,aL]
   rw[wi (n:=(a.length:Int)+1) (by omega),hl,a1]
   simp only[aTI]
   rw[e1]
   simp only[aTI,aTO,aUV,aUg]
   rw[aN (by omega)]
   simp only[aTI,aL]
   rw[aN (by omega)]
   simp only[aTI,aL]
   rw[hl]at e2
   rw[e2]
   simp only[aTI]
   rw[aN (by rw[aT4,aUr];omega),wi (n:=(k:Int)+1) (by omega)]
   rfl
  rw[aS st]
  refine ih (k+1) _ _ _ (by omega) (xR c1 d1) ?_
  rw[aVH,aTS hlt]
  have p1:(a.take r.1.toNat++[s[k]]++a.drop r.1.toNat).Perm (a++[s[k]]):=by
   rw[aT0]
   refine(List.Perm.append_left _ List.perm_append_comm).trans ?_
   rw[<- aT0,aUx]
  exact p1.trans (hp.append_right _)
def mD (l:List QL)(o:List Int):Tree:=⟨(aE l o o []).map NQ.toN⟩
theorem aQ3 (c:l01Cur)(n:Int)(h:rO c):∀ (m:Nat) (k fi fh:Int),m+k=n->0<=k->n<=1000->rO ⟨c.fb,fi,fh⟩->∃ fi' fh',lp (qJ n c) (k,fi,fh)=some (fi',fh')/\rO ⟨c.fb,fi',fh'⟩:=by
 intro m
 induction m with
 | zero =>
  intro k fi fh hm hk hn hc
  exact⟨fi,fh,aJ (by unfold qJ;simp only[];rw[aTJ (by omega)]),hc⟩
 | succ m ih =>
  intro k fi fh hm hk hn hc
  obtain⟨r,a1,b1,c1,d1⟩:=aPE ⟨c.fb,fi,fh⟩ hc
  obtain⟨f2,g2,e2,c2⟩:=ih (k+1) r.2.fi r.2.fh (by omega) (by omega) hn (xR c1 d1)
  refine⟨f2,g2,?_,c2⟩
  rw[aS (s':=(k+1,r.2.fi,r.2.fh)),e2]
  unfold qJ
  simp only[]
  rw[aTK (by omega),a1]
  simp only[aTI]
  rw[wi (n:=k+1) (by omega)]
theorem aQI (code:List Int)(n:Int)(hn:0<=n/\n<=1000)(h:code.length<=1048576):∃ c,wT code n=some c/\rO c:=by
 obtain⟨c,e1,c1,f1⟩:=aRu code h
 obtain⟨f2,g2,e2,c2⟩:=aQ3 c n c1 n.toNat 0 c.fi c.fh (by omega) (by omega) hn.2 c1
 refine⟨⟨c.fb,f2,g2⟩,?_,c2⟩
 unfold wT
 rw[e1];simp only[aTI]
 rw[e2]
 rfl
/- The program alone: links, order and test of a tree (the seat lacks the other program's). -/
theorem aQP (t:Tree)(h:mP t<=4294967296):rI t=some (eW t.fNodes):=by
 unfold mP pN at h
 have hl:=jW bU t.fNodes
 have hmem:∀ k (hk:k<t.fNodes.length),aK (t.fNodes[k]).fOwn<=4294967296:=fun k hk=>by
  have he:=qB (w:=bU) (aT2 hk)
  have hn:bU t.fNodes[k]=aK (t.fNodes[k]).fOwn+aV (t.fNodes[k]).fCond+aK (t.fNodes[k]).fMessages+bB (t.fNodes[k]).fEnergy:=rfl
  omega
 have hln:∀ k (hk:k<t.fNodes.length),(eW (t.fNodes.take k)).length+((t.fNodes[k]).fOwn).length<=4294967296:=fun k hk=>by
  have:=aLg t.fNodes h (k+1)
  rw[aE5 _ _ hk,aT4]at this;omega
 have aux:∀ (step:(Int×(List Link))->Option ((Int×(List Link)) ⊕ (List Link))),(∀ k (hk:k<t.fNodes.length),step ((k:Int),eW (t.fNodes.take k))=some (.inl (((k+1:Nat):Int),eW (t.fNodes.take (k+1)))))->step ((t.fNodes.length:Int),eW (t.fNodes.take t.fNodes.length))=some (.inr (eW t.fNodes))->lp step (0,[])=some (eW t.fNodes):=by
  intro step h1 h2
  have main:∀ m k:Nat,m+k=t.fNodes.length->lp step ((k:Int),eW (t.fNodes.take k))=some (eW t.fNodes):=by
   intro m
   induction m with
   | zero =>
    intro k hk
    have:k=t.fNodes.length:=by omega
    subst this
    exact aJ h2
   | succ m ih =>
    intro k hk
    rw[aS (h1 k (by omega))]
    exact ih (k+1) (by omega)
  exact main t.fNodes.length 0 (by omega)
 unfold rI
 rw[aux (mA t) (fun k hk=>by
  have:=hmem k hk
  have:=hln k hk
  unfold mA
  simp only[]
  rw[aTK (by omega),aM hk]
  simp only[aTI]
  rw[rZ _ (by omega)]
  simp only[aTI]
  rw[aN (by omega),aE5 _ _ hk,wi1 (by omega)];rfl) (by unfold mA;simp only[];rw[aTJ (by omega),aUY])]
 rfl
theorem aQE (t:Tree)(h:t.fNodes.length<=4294967296):sB t=some (aDN t):=by
 have:sB t=some (aDN t):=by
  have:=(lW (step:=pH t) t.fNodes (fun k u=>((k:Int),u)) (fun u n=>u++[n.fNode]) (fun u=>u) (fun k u=>u.length<=k) (fun k u hk hi=>by
   constructor
   · unfold pH
     simp only[]
     rw[aTK (by omega),aM hk]
     simp only[aTI,wi1 (by omega:k<=4294967296)]
     rw[aN (by omega)];rfl
   · rw[aT4,aUr];omega) (fun u _=>by unfold pH;simp only[];rw[aTJ (by omega)]) [] (aUB _)).1
  rw[show((0:Nat):Int)=0 from rfl,aDk,aTO]at this
  unfold sB
  rw[this];rfl
 exact this
theorem aQc (t:Tree)(h:mP t<=4194304):xG t=some (decide (aAa t)):=by
 have h0:=h
 unfold mP pN at h
 have hl:=jW bU t.fNodes
 have ho:=aEB t.fNodes
 have l2:=aQP t (by omega)
 have o2:=aQE t (by omega)
 have b2:=(aJz (eW t.fNodes) (aDN t) (by omega) (by unfold aDN;rw[aTZ];omega)).2
 unfold xG
 rw[l2]
 simp only[aTI,o2,b2]
 by_cases c:aAa t
 · have c':=c
   unfold aAa at c'
   rw[c',aTN c]
   simp only[pkT,aT3,aL8 t t (by omega),aTI,aVx]
 · rw[aTL c]
   cases g:zB (eW t.fNodes) (aDN t)with
   | none=>simp[pkT]
   | some u =>
    have:¬t=u:=by rintro rfl;exact c g
    simp only[pkT,aT3,aL8 t u (by omega),aTI,aTL this]
/- Inserting all links, both programs, and the law. -/
theorem aJI (a:Int)(c:Nat):∀ r:List Int,r.Nodup->(r.map (fun v=>if a=v then c else 0)).sum<=c
 | [],_=>aUB _
 | v::r,h=>by
  rw[aUM]at h
  rw[aTV,aWf]
  by_cases e:a=v
  · rw[aTK e]
    have:∀ l:List Int,v∉l->(l.map (fun v=>if a=v then c else 0)).sum=0:=by
     intro l
     induction l with
     | nil=>intro _;rfl
     | cons x l ih =>
      intro hx
      simp only[aTM,not_or]at hx
      rw[aTV,aWf,ih hx.2,aTJ (fun e'=>hx.1 (by rw[<- e,e']))]
    rw[this r h.1];omega
  · rw[aTJ e]
    have:=aJI a c r h.2
    omega
theorem aJZ (o:List Int)(r:List Int)(hr:r.Nodup):∀ s:List Link,(r.map (fun v=>aK (s.filter (qT o v)))).sum<=aK s
 | []=>by
  have:∀ l:List Int,(l.map (fun v=>aK (([]:List Link).filter (qT o v)))).sum=0:=by
   intro l
   induction l with
   | nil=>rfl
   | cons x l ih=>rw[aTV,aWf,ih];rfl
  rw[this];exact aUB _
 | x::s=>by
  have ih:=aJZ o r hr s
  have h1:=aJI (aT o [x.fA,x.fB]) (bW x+1) r hr
  have e:∀ l:List Int,(l.map (fun v=>aK ((x::s).filter (qT o v)))).sum=(l.map (fun v=>if aT o [x.fA,x.fB]=v then bW x+1 else 0)).sum+(l.map (fun v=>aK (s.filter (qT o v)))).sum:=by
   intro l
   induction l with
   | nil=>rfl
   | cons v l ih =>
    simp only[aTV,aWf,ih]
    have:aK ((x::s).filter (qT o v))=(if aT o [x.fA,x.fB]=v then bW x+1 else 0)+aK (s.filter (qT o v)):=by
     rw[aUn]
     unfold qT
     by_cases c:aT o [x.fA,x.fB]=v
     · rw[aTK (by simpa using c),aTK c];unfold aK;rw[oP]
     · rw[aTJ (by simpa using c),aTJ c];omega
    omega
  rw[e]
  have:aK (x::s)=bW x+1+aK s:=by unfold aK;rw[oP]
  omega
theorem aA4:∀ b:List TreeNode,aK (eW b)=(b.map (fun n=>aK n.fOwn)).sum
 | []=>rfl
 | n::b=>by
  have e:eW (n::b)=n.fOwn++eW b:=by simp[eW]
  rw[e,aL2,aA4 b,aTV,aWf]
theorem aNZ {s:List Link}{o:List Int}{b:List TreeNode}(hn:o.Nodup)(h:wS s o o []=some b):aK (eW b)<=aK s:=by
 obtain⟨h1,h2⟩:=aBG o [] b (by simp) h
 simp only[aUH,aTO]at h2
 rw[aA4]
 have e:b.map (fun n=>aK n.fOwn)=b.map (fun n=>aK (s.filter (qT o n.fNode))):=aV7 fun n hn=>by rw[(h1 n hn).2.1]
 have e2:b.map (fun n=>aK (s.filter (qT o n.fNode)))=o.map (fun v=>aK (s.filter (qT o v))):=by rw[<- h2,aVr];rfl
 rw[e,e2]
 exact aJZ o o hn s
theorem aJG {s:List Link}{o:List Int}:∀ {b:List TreeNode},(∀ n∈b,NodeOk s o n)->szL bU b<=aK (eW b)+51425*b.length
 | [],_=>aUB _
 | n::b,h=>by
  have ih:=aJG (b:=b) (fun m hm=>h m (by simp[hm]))
  have hn:=h n (by simp)
  have h1:=hn.1.sz
  have h3:=mL (.inl hn.2.2.2.1)
  have h4:=hn.2.2.1
  have e:aK (eW (n::b))=aK n.fOwn+aK (eW b):=by rw[aA4,aA4,aTV,aWf]
  have e2:bU n=aK n.fOwn+aV n.fCond+aK n.fMessages+bB n.fEnergy:=rfl
  rw[oP,aUh,e,e2]
  omega
theorem aLK {s:List Link}{o:List Int}{u:Tree}(h:zB s o=some u):aK (eW u.fNodes)<=aK s/\mP u<=aK s+462825:=by
 unfold zB at h
 cases hj:jnP s with
 | none=>rw[hj]at h;cases h
 | some x =>
  rw[hj,aTI]at h
  by_cases c:isOrd x.1 o
  · rw[aTK c]at h
    cases g:wS s o o []with
    | none=>rw[g]at h;cases h
    | some b =>
     rw[g]at h
     obtain rfl:=Option.some.inj h
     have h1:=aNZ c.1 g
     obtain⟨k1,k2⟩:=aBG o [] b (by simp) g
     have h2:=aJG k1
     have hl:b.length=o.length:=by have:=congrArg List.length k2;simpa using this
     have h9:=(aGY c).1
     refine⟨h1,?_⟩
     show szL bU b<=_
     have:51425*b.length<=51425*9:=aUd (aTU _) (by omega)
     omega
  · rw[aTJ c]at h;cases h
/- What is built on tied links is a tree. -/
theorem aKp {α:Type}{f g:Int->List α}:∀ {r:List Int},(∀ u∈r,f u=g u)->r.flatMap f=r.flatMap g
 | [],_=>rfl
 | u::r,h=>by rw[aUk,aUk,h u (by simp),aKp fun w hw=>h w (by simp[hw])]
theorem aH7 {α:Type}(f:α->Int):∀ (o:List Int) (l:List α),o.Nodup->(∀ x∈l,f x∈o)->(o.flatMap fun v=>l.filter fun x=>decide (f x=v)).Perm l
 | [],l,_,h=>by
  cases l with
  | nil=>exact List.Perm.refl _
  | cons x l=>exact absurd (h x (by simp)) (by simp)
 | v::r,l,hn,h=>by
  rw[aUM]at hn
  rw[aUk]
  have e:(r.flatMap fun u=>l.filter fun x=>decide (f x=u))=r.flatMap fun u=>(l.filter fun x=>!decide (f x=v)).filter fun x=>decide (f x=u):=by
   refine aKp fun u hu=>?_
   rw[aU2]
   refine aVl fun x _=>?_
   by_cases c:f x=u
   · have:f x≠v:=fun e=>hn.1 (by rw[<- e,c];exact hu)
     rw[aTN c,aTL this];rfl
   · rw[aTL c];rfl
  rw[e]
  have ih:=aH7 f r (l.filter fun x=>!decide (f x=v)) hn.2 (fun x hx=>by
   rw[aUb]at hx
   have h1:=h x hx.1
   have h2:f x≠v:=by simpa using hx.2
   exact(aTM.1 h1).resolve_left h2)
  exact(List.Perm.append_left _ ih).trans (List.filter_append_perm _ l)
theorem aE4 {α:Type}(f:α->Int)(l:List α)(v:Int):∀ o:List Int,o.Nodup->v∈o->((o.flatMap fun u=>l.filter fun x=>decide (f x=u)).filter fun x=>decide (f x=v))=l.filter fun x=>decide (f x=v)
 | w::r,hn,hv=>by
  rw[aUM]at hn
  rw[aUk,aVT]
  have none:∀ s:List Int,v∉s->((s.flatMap fun u=>l.filter fun x=>decide (f x=u)).filter fun x=>decide (f x=v))=[]:=by
   intro s hs
   rw[List.filter_eq_nil_iff]
   intro x hx
   obtain⟨u,hu,hx⟩:=aVh.1 hx
   have:=aUi (aUb.1 hx).2
   intro e
   have:=aUi e
   have e3:v=u:=by omega
   exact hs (e3▸hu)
  by_cases c:v=w
  · subst c
    rw[none r hn.1,aUJ,aU2]
    refine aVl fun x _=>?_
    simp
  · have e:((l.filter fun x=>decide (f x=w)).filter fun x=>decide (f x=v))=[]:=by
     rw[List.filter_eq_nil_iff]
     intro x hx e
     have h1:=aUi (aUb.1 hx).2
     have h2:=aUi e
     exact c (by omega)
    rw[e,aTO]
    exact aE4 f l v r hn.2 ((aTM.1 hv).resolve_left c)
theorem zJ (l:List QL)(o:List Int):∀ (r:List Int) (b:List NQ),(aE l o r b).map (fun n=>n.node)=b.map (fun n=>n.node)++r
 | [],b=>by simp[aE]
 | v::r,b=>by
  rw[aE,zJ l o r]
  simp only[aUF,aTV,aUH,aT0,aUP]
  rfl
theorem aHS (l:List QL)(o:List Int):∀ (r:List Int) (b:List NQ),(aE l o r b).flatMap (fun n=>n.own)=b.flatMap (fun n=>n.own)++r.flatMap fun v=>l.filter (qG o v)
 | [],b=>by simp[aE]
 | v::r,b=>by
  rw[aE,aHS l o r,aVz,aUk,aVi,aUJ,aUk,aT0]
  rfl
theorem aEX {l l':List QL}{o:List Int}:∀ (r:List Int) (b:List NQ),(∀ v∈r,l'.filter (qG o v)=l.filter (qG o v))->aE l' o r b=aE l o r b
 | [],b,_=>rfl
 | v::r,b,h=>by
  have e:nxt l' o v b=nxt l o v b:=by unfold nxt;rw[h v (by simp)]
  rw[aE,aE,e]
  exact aEX r _ fun u hu=>h u (by simp[hu])
def aKl (l:List QL)(o:List Int):List QL:=o.flatMap fun v=>l.filter (qG o v)
theorem Tie.owner {l:List QL}{o:List Int}(h:Tie l o):∀ x∈l,aT o [x.a,x.b]∈o:=by
 intro x hx
 have hb:=h.base
 have hbm:x.b∈o:=(h.mem _).2 ⟨by have:=(h.lk x hx).1;omega,x,hx,.inr rfl⟩
 rcases aEb (s:=[x.a,x.b]) (fun u hu=>(hb.h1 u hu).1)with⟨_,h4⟩ | ⟨p,v,r,e,h2,h3,h4⟩
 · exact absurd (by simp) (h4 _ hbm)
 · rw[h2,e];simp
theorem Tie.inPerm {l:List QL}{o:List Int}(h:Tie l o):(aKl l o).Perm l:=aH7 (fun x:QL=>aT o [x.a,x.b]) o l h.nd h.owner
theorem Tie.inTie {l:List QL}{o:List Int}(h:Tie l o):Tie (aKl l o) o:=h.perm h.inPerm (List.Perm.refl _)
theorem Tie.inTree {l:List QL}{o:List Int}(h:Tie l o):mD (aKl l o) o=mD l o:=by
 unfold mD
 have e:aE (aKl l o) o o []=aE l o o []:=aEX o [] fun v hv=>aE4 (fun x:QL=>aT o [x.a,x.b]) l v o h.nd hv
 rw[e]
theorem aOF:∀ b:List NQ,eW (b.map NQ.toN)=(b.flatMap fun n=>n.own).map QL.toL:=by
 intro b
 unfold eW
 induction b with
 | nil=>rfl
 | cons n b ih =>
  rw[aUk,aUF,<- ih];rfl
theorem aKT (l:List QL)(o:List Int):eW (mD l o).fNodes=(aKl l o).map QL.toL:=by
 unfold mD
 simp only[]
 rw[aOF,aHS,aVi,aTO]
 rfl
theorem aKU (l:List QL)(o:List Int):aDN (mD l o)=o:=by
 unfold aDN mD
 simp only[aVr]
 have:=zJ l o o []
 rw[aUH,aTO]at this
 exact this
theorem Tie.isTree {l:List QL}{o:List Int}(h:Tie l o):aAa (mD l o):=by
 unfold aAa
 rw[aKT,aKU,h.inTie.build]
 exact congrArg some h.inTree
theorem Tie.tsz {l:List QL}{o:List Int}(h:Tie l o):mP (mD l o)<=470000:=by
 have hz:=h.sz
 have:=(aLK h.build).2
 unfold mD
 omega
/- The law of the paths of a tree. -/
/- The cliques of a tree, both programs, and the law. -/
theorem aLk {o:List Int}{v:Int}{own:List Link}{b:List TreeNode}{n:TreeNode}(h:sS o v own b=some n):bT n.fCond=some true:=by
 unfold sS at h
 cases e1:jnP (own++aBa v b)with
 | none=>rw[e1]at h;cases h
 | some u =>
  rw[e1,aTI]at h
  cases e2:aEx v u.1 with
  | none=>rw[e2]at h;cases h
  | some w =>
   obtain⟨c,m,f⟩:=w
   rw[e2,aTI]at h
   have hc:bT c=some true:=by
    unfold aEx at e2
    cases e3:zA v u.1 with
    | none=>rw[e3]at e2;cases e2
    | some x =>
     rw[e3,aTI]at e2
     have ex:x.1=c:=by
      cases e4:jnP (zQ v u.1++x.2)with
      | none=>rw[e4]at e2;cases e2
      | some y=>rw[e4]at e2;exact congrArg Prod.fst (Option.some.inj e2)
     unfold zA at e3
     split at e3
     · rename_i hh
       cases e3
       rw[<- ex];exact hh.2.1
     · cases e3
   split at h
   · cases h;exact hc
   · cases h
theorem aHV {Q:TreeNode->Prop}{s:List Link}{o:List Int}(hQ:∀ v b n,sS o v (s.filter (qT o v)) b=some n->Q n):∀ (r:List Int) (b b':List TreeNode),(∀ n∈b,Q n)->wS s o r b=some b'->∀ n∈b',Q n
 | [],b,b',h,e=>by cases e;exact h
 | v::r,b,b',h,e=>by
  rw[wS]at e
  cases h1:sS o v (s.filter (qT o v)) b with
  | none=>rw[h1]at e;cases e
  | some n =>
   rw[h1,aTI]at e
   exact aHV hQ r (b++[n]) b' (fun m hm=>by
    rcases aTR.1 hm with hm | hm
    · exact h m hm
    · rw[aUA.1 hm];exact hQ _ _ _ h1) e
theorem aFV {t:Tree}(ht:aAa t):t.fNodes.length<=9/\∀ n∈t.fNodes,1<=n.fNode/\bT n.fCond=some true/\aV n.fCond<=20000:=by
 unfold aAa zB at ht
 cases hj:jnP (eW t.fNodes)with
 | none=>rw[hj]at ht;cases ht
 | some x =>
  rw[hj,aTI]at ht
  by_cases c:isOrd x.1 (aDN t)
  · rw[aTK c]at ht
    cases g:wS (eW t.fNodes) (aDN t) (aDN t) []with
    | none=>rw[g]at ht;cases ht
    | some b =>
     rw[g]at ht
     have e:=Option.some.inj ht
     obtain⟨k1,k2⟩:=aBG (aDN t) [] b (by simp) g
     have k3:=aHV (Q:=fun n=>bT n.fCond=some true) (fun v b n h=>aLk h) (aDN t) [] b (by simp) g
     have eb:b=t.fNodes:=by rw[<- e]
     subst eb
     obtain⟨l1,l2⟩:=aGY c
     refine⟨by unfold aDN at l1;rwa [aTZ]at l1,fun n hn=>⟨l2 _ (aT5.2 ⟨n,hn,rfl⟩),k3 n hn,(k1 n hn).2.2.1⟩⟩
  · rw[aTJ c]at ht;cases ht
/- Nodes that hang on nothing: a tree is not built. -/
/- A link that hangs on nothing cannot be inserted. -/
/- Inserting a link that hangs on the tree. -/
/- Nodes that an inserted link does not change. -/
theorem vL (l:List QL)(o:List Int)(v:Int):∀ (p:List Int) (b:List NQ),aE l o (p++[v]) b=aE l o p b++[nxt l o v (aE l o p b)]
 | [],b=>rfl
 | u::p,b=>by rw[aTT,aE,aE,vL l o v p]
theorem TInv.at {l:List QL}{o:List Int}(hb:Base l o)(hg:Grounded l o):∀ (n:Nat) (p r:List Int),p.length=n->o=p++r->TInv l o p r (aE l o p [])
 | 0,p,r,hn,e=>by
  have:p=[]:=aTW.1 hn
  subst this
  rw[aTO]at e
  subst e
  exact TInv.start hb hg
 | n+1,p,r,hn,e=>by
  rcases aVD p with rfl | ⟨q,v,rfl⟩
  · simp at hn
  · rw[aVE]at hn e ⊢
    have ih:=TInv.at hb hg n q (v::r) (by simpa using hn) (by rw[e,aT0];rfl)
    rw[vL]
    exact(ih.next hb).1
/- Nodes outside a closed set stay as they are. -/
section
variable {l:List QL}{o:List Int}{k:QL}{L:Int->Prop}
end
/- Parents lie on the path. -/
theorem aHU (l:List QL)(o:List Int):∀ (p q:List Int) (b:List NQ),aE l o (p++q) b=aE l o q (aE l o p b)
 | [],q,b=>rfl
 | v::p,q,b=>by rw[aTT,aE,aE,aHU l o p q]
/- What an inserted link changes lies in the list. -/
/- Energies at positions: what joining and eliminating keep. -/
def eP (p q:Int->Q)(x:QL):Q:=x.w*sqQ (p x.b-p x.a-x.x) (q x.b-q x.a-x.y)
theorem aR4 (p q:Int->Q){k l:QL}(ha:k.a=l.a)(hb:k.b=l.b)(hk:0<k.w)(hl:0<l.w):eP p q (mrg k l)+aGD k l=eP p q k+eP p q l:=by
 have:k.w+l.w≠0:=by grind
 unfold eP mrg aGD sqQ
 simp only[]
 rw[ha,hb]
 generalize p l.b-p l.a=u
 generalize q l.b-q l.a=v
 grind
theorem aMQ (p q:Int->Q):∀ (s:List QL) (l:QL),(∀ x∈s,0<x.w)->0<l.w->sm (eP p q) (kD s l).1+(kD s l).2=sm (eP p q) s+eP p q l
 | [],l,_,_=>by simp only[kD,sm];grind
 | k::s,l,hs,hl=>by
  have hk:=hs k (by simp)
  have hr:=fun x hx=>hs x (aUv k hx)
  by_cases c:cY k l
  · have ih:=aMQ p q s l hr hl
    rw[tZ c,sm,sm]
    simp only[]
    grind
  · by_cases d:cY l k
    · rw[xJ c d]
      simp only[sm]
      grind
    · have e:=aR4 p q (zL c d).1 (zL c d).2 hk hl
      rw[xI c d]
      simp only[sm]
      grind
theorem aCg (s:List QL)(l:QL)(hs:∀ x∈s,0<x.w)(hl:0<l.w):∀ x∈(kD s l).1,0<x.w :=
 aEj (P:=fun x=>0<x.w) (fun k l _ _ h1 h2=>aMr h1 h2) s l hs hl
theorem aD7 (p q:Int->Q):∀ (l s:List QL) (e:Q),(∀ x∈l,0<x.w)->(∀ x∈s,0<x.w)->sm (eP p q) (aR l s e).1+(aR l s e).2=sm (eP p q) s+sm (eP p q) l+e
 | [],s,e,_,_=>by simp only[aR,sm];grind
 | x::l,s,e,hl,hs=>by
  have hx:=hl x (by simp)
  have h1:=aD7 p q l (kD s x).1 (e+(kD s x).2) (fun y hy=>hl y (by simp[hy])) (aCg s x hs hx)
  have h2:=aMQ p q s x hs hx
  rw[aR,sm]
  grind
theorem aEN:∀ (l s:List QL) (e:Q),(∀ x∈l,0<x.w)->(∀ x∈s,0<x.w)->∀ x∈(aR l s e).1,0<x.w
 | [],s,e,_,hs=>hs
 | x::l,s,e,hl,hs=>by
  rw[aR]
  exact aEN l _ _ (fun y hy=>hl y (by simp[hy])) (aCg s x hs (hl x (by simp)))
theorem aSq (p q:Int->Q){v:Int}{l:QL}(h:aFe v l=true):eP p q (aBB v l)=eP p q l:=by
 have h:=aUi h
 unfold aBB
 by_cases c:l.a=v
 · rw[aTK c]
   unfold eP sqQ
   simp only[]
   rw[c]
   grind
 · rw[aTJ c]
   have hb:l.b=v:=h.resolve_left c
   unfold eP sqQ
   simp only[]
   rw[hb]
theorem aJL (p q:Int->Q)(v:Int):∀ s:List QL,sm (eP p q) s=sm (eP p q) (bP v s)+sm (eP p q) (vE v s)
 | []=>by simp only[bP,vE,aVA,aUH,sm];grind
 | x::s=>by
  have ih:=aJL p q v s
  unfold bP vE at ih ⊢
  rw[aUn,aUn,sm]
  by_cases c:aFe v x=true
  · have e:=aSq p q c
    simp only[c,aUL,aT3,aTP,aT9,aTV,sm];grind
  · simp only[c,Bool.not_eq_true,aT9,aV3,aT3,sm];grind
def app (f:Int->Q)(g:PQ->Q):List PQ->Q
 | []=>0
 | x::r=>x.s*(f x.node+g x)+app f g r
def cdE (p q:Int->Q)(c:CQ):Q:=c.t*sqQ (p c.node-app p (·.x) c.ps) (q c.node-app q (·.y) c.ps)
theorem aRG (f:Int->Q)(t:Q):∀ a:List QL,app f (·.x) (a.map (zH t))=sm (fun y=>y.w*(f y.a+y.x)) a / t
 | []=>by simp only[aUH,app,sm];grind
 | x::a=>by
  rw[aTV,app,sm,aRG f t a]
  unfold zH
  simp only[]
  grind
theorem aRF (f:Int->Q)(t:Q):∀ a:List QL,app f (·.y) (a.map (zH t))=sm (fun y=>y.w*(f y.a+y.y)) a / t
 | []=>by simp only[aUH,app,sm];grind
 | x::a=>by
  rw[aTV,app,sm,aRF f t a]
  unfold zH
  simp only[]
  grind
section
variable (p q:Int->Q)
def s1x (a:List QL):Q:=sm (fun y=>y.w*(p y.a+y.x)) a
def s1y (a:List QL):Q:=sm (fun y=>y.w*(q y.a+y.y)) a
def s2 (a:List QL):Q:=sm (fun y=>y.w*sqQ (p y.a+y.x) (q y.a+y.y)) a
theorem aO3 (t:Q)(ht:t≠0)(x:QL):∀ a:List QL,sm (eP p q) (a.map (mlQ t x))*t=x.w*(s2 p q a-2*(p x.a+x.x)*s1x p a-2*(q x.a+x.y)*s1y q a+sqQ (p x.a+x.x) (q x.a+x.y)*sm wt a)
 | []=>by simp only[aUH,sm,s2,s1x,s1y];grind
 | y::a=>by
  have ih:=aO3 t ht x a
  unfold s2 s1x s1y at ih ⊢
  rw[aTV,sm,sm,sm,sm,sm,_root_.Rat.add_mul,ih]
  unfold eP mlQ sqQ wt
  simp only[]
  generalize sm (fun y=>y.w*((p y.a+y.x)*(p y.a+y.x)+(q y.a+y.y)*(q y.a+y.y))) a=S2
  generalize sm (fun y=>y.w*(p y.a+y.x)) a=S1
  generalize sm (fun y=>y.w*(q y.a+y.y)) a=S3
  generalize sm (fun l=>l.w) a=S0
  generalize p x.a=px
  generalize p y.a=py
  generalize q x.a=qx
  generalize q y.a=qy
  have e:x.w*y.w / t*((py-px-(x.x-y.x))*(py-px-(x.x-y.x))+(qy-qx-(x.y-y.y))*(qy-qx-(x.y-y.y)))*t=x.w*y.w*((py-px-(x.x-y.x))*(py-px-(x.x-y.x))+(qy-qx-(x.y-y.y))*(qy-qx-(x.y-y.y))):=by grind
  rw[e]
  grind
theorem aMw (t:Q)(ht:t≠0):∀ a:List QL,sm (eP p q) (mX t a)*t=sm wt a*s2 p q a-s1x p a*s1x p a-s1y q a*s1y q a
 | []=>by simp only[mX,sm,s2,s1x,s1y];grind
 | x::a=>by
  have ih:=aMw t ht a
  have h:=aO3 p q t ht x a
  rw[mX,mV,_root_.Rat.add_mul,ih,h]
  unfold s2 s1x s1y
  rw[sm,sm,sm,sm]
  unfold wt sqQ
  grind
theorem aMM (v:Int):∀ a:List QL,(∀ x∈a,x.b=v)->sm (eP p q) a=sm wt a*sqQ (p v) (q v)-2*p v*s1x p a-2*q v*s1y q a+s2 p q a
 | [],_=>by simp only[sm,s2,s1x,s1y];grind
 | x::a,h=>by
  have ih:=aMM v a (fun y hy=>h y (by simp[hy]))
  have hx:=h x (by simp)
  unfold s2 s1x s1y at ih ⊢
  rw[sm,sm,sm,sm,sm,ih]
  unfold eP wt sqQ
  rw[hx]
  grind
theorem aQl {v:Int}{a:List QL}(hb:∀ x∈a,x.b=v)(h:sm wt a≠0):sm (eP p q) a=cdE p q (pK v a)+sm (eP p q) (mX (sm wt a) a):=by
 have h1:=aMw p q (sm wt a) h a
 have h2:=aMM p q v a hb
 unfold cdE pK
 simp only[]
 rw[aRG,aRF,h2]
 have e1:sm (fun y=>y.w*(p y.a+y.x)) a=s1x p a:=rfl
 have e2:sm (fun y=>y.w*(q y.a+y.y)) a=s1y q a:=rfl
 rw[e1,e2]
 unfold sqQ
 have h3:sm (eP p q) (mX (sm wt a) a)=(sm wt a*s2 p q a-s1x p a*s1x p a-s1y q a*s1y q a) / sm wt a:=by grind
 rw[h3]
 grind
end
theorem aSp (v:Int)(s:List QL):∀ x∈bP v s,x.b=v:=by
 intro x hx
 obtain⟨l,_,_,rfl⟩:=xE.1 hx
 unfold aBB
 split <;> rfl
theorem aJ5 {t:Q}(ht:0<t):∀ {a:List QL},(∀ x∈a,0<x.w)->∀ z∈mX t a,0<z.w
 | x::a,h,z,hz=>by
  rw[mX,aTR]at hz
  rcases hz with hz | hz
  · obtain⟨y,hy,rfl⟩:=aT5.1 hz
    have h1:=aWF (h x (by simp)) (h y (by simp[hy]))
    show 0<x.w*y.w / t
    rw[_root_.Rat.lt_div_iff ht];grind
  · exact aJ5 ht (fun y hy=>h y (by simp[hy])) z hz
theorem aQG (p q:Int->Q){l:List QL}{o:List Int}{v:Int}{b:List NQ}(hp:∀ x∈l.filter (qG o v)++oW v b,0<x.w)(hW:0<sm wt (bP v (aR (l.filter (qG o v)++oW v b) [] 0).1)) :
 sm (eP p q) (l.filter (qG o v))+sm (eP p q) (oW v b)=cdE p q (nxt l o v b).cond+(nxt l o v b).enQ+sm (eP p q) (nxt l o v b).msgs:=by
 generalize hF:l.filter (qG o v)++oW v b=F at hp hW
 have h1:=aD7 p q F [] 0 hp (by simp)
 have p1:=aEN F [] 0 hp (by simp)
 have h2:=aJL p q v (aR F [] 0).1
 have h3:=aQl p q (aSp v (aR F [] 0).1) (by grind)
 have pa:∀ x∈bP v (aR F [] 0).1,0<x.w:=fun x hx=>by
  obtain⟨y,hy,_,rfl⟩:=xE.1 hx
  rw[aEh];exact p1 y hy
 have pn:∀ x∈iW v (aR F [] 0).1,0<x.w:=fun x hx=>by
  rcases aTR.1 hx with hx | hx
  · exact p1 x (aAz.1 hx).1
  · exact aJ5 hW pa x hx
 have h4:=aD7 p q (iW v (aR F [] 0).1) [] 0 pn (by simp)
 have h5:sm (eP p q) (iW v (aR F [] 0).1)=sm (eP p q) (vE v (aR F [] 0).1)+sm (eP p q) (mX (sm wt (bP v (aR F [] 0).1)) (bP v (aR F [] 0).1)):=mV _ _ _
 have e1:(nxt l o v b).cond=pK v (bP v (aR F [] 0).1):=by rw[<- hF];rfl
 have e2:(nxt l o v b).enQ=(aR F [] 0).2+(aR (iW v (aR F [] 0).1) [] 0).2:=by rw[<- hF];rfl
 have e3:(nxt l o v b).msgs=(aR (iW v (aR F [] 0).1) [] 0).1:=by rw[<- hF];rfl
 have e4:sm (eP p q) F=sm (eP p q) (l.filter (qG o v))+sm (eP p q) (oW v b):=by rw[<- hF];exact mV _ _ _
 rw[e1,e2,e3]
 simp only[sm]at h1 h4
 grind
/- Parents of parents; the nodes of a tree by their place. -/
theorem aHT (l:List QL)(o:List Int):∀ (q:List Int) (b:List NQ),∃ c,aE l o q b=b++c
 | [],b=>⟨[],by simp[aE]⟩
 | v::q,b=>by
  obtain⟨c,e⟩:=aHT l o q (b++[nxt l o v b])
  exact⟨nxt l o v b::c,by rw[aE,e,aT0];rfl⟩
theorem xZ (l:List QL)(o:List Int)(q:List Int)(b:List NQ):(aE l o q b).length=b.length+q.length:=by
 have:=congrArg List.length (zJ l o q b)
 simpa using this
theorem aNh (l:List QL)(o:List Int):(mD l o).fNodes.length=o.length:=by
 show((aE l o o []).map NQ.toN).length=_
 rw[aTZ,xZ];simp
theorem aOO {l:List QL}{o p:List Int}{v:Int}{r:List Int}(e:o=p++v::r):(mD l o).fNodes[p.length]?=some (nxt l o v (aE l o p [])).toN:=by
 show((aE l o o []).map NQ.toN)[p.length]?=_
 have:aE l o o []=aE l o (p++v::r) []:=congrArg (fun z=>aE l o z []) e
 rw[this,aHU,aE]
 obtain⟨c,ec⟩:=aHT l o r (aE l o p []++[nxt l o v (aE l o p [])])
 rw[ec,aUF,aUF,aT0,aUs (by rw[aTZ,xZ];simp)]
 simp[xZ]
/- The energies of a tree at positions; its solution. -/
def sn (f:NQ->Q):List NQ->Q
 | []=>0
 | x::l=>f x+sn f l
theorem aK0 (f:NQ->Q):∀ a b:List NQ,sn f (a++b)=sn f a+sn f b
 | [],b=>by simp only[aTO,sn];grind
 | x::a,b=>by rw[aTT,sn,sn,aK0 f a b,_root_.Rat.add_assoc]
theorem aK1 (f g:NQ->Q):∀ a:List NQ,sn (fun n=>f n+g n) a=sn f a+sn g a
 | []=>by simp only[sn];grind
 | x::a=>by rw[sn,sn,sn,aK1 f g a];grind
theorem aCo {f:NQ->Q}:∀ {l:List NQ},(∀ x∈l,0<=f x)->0<=sn f l
 | [],_=>by simp[sn]
 | x::l,h=>by
  have h1:=h x (by simp)
  have h2:=aCo (f:=f) (l:=l) (fun y hy=>h y (by simp[hy]))
  rw[sn];grind
theorem aIM {f:NQ->Q}:∀ {l:List NQ},(∀ x∈l,f x=0)->sn f l=0
 | [],_=>rfl
 | x::l,h=>by
  rw[sn,h x (by simp),aIM (fun y hy=>h y (by simp[hy]))];grind
theorem aKZ {f:NQ->Q}:∀ {l:List NQ},(∀ x∈l,0<=f x)->sn f l<=0->∀ x∈l,f x=0
 | y::l,h,h0,x,hx=>by
  have h1:=h y (by simp)
  have h2:=aCo (f:=f) (l:=l) (fun y hy=>h y (by simp[hy]))
  rw[sn]at h0
  rcases aTM.1 hx with rfl | hx
  · grind
  · exact aKZ (fun y hy=>h y (by simp[hy])) (by grind) x hx
theorem aQq {f:QL->Q}{a b:List QL}(h:a.Perm b):sm f a=sm f b:=by
 induction h with
 | nil=>rfl
 | cons x _ ih=>rw[sm,sm,ih]
 | swap x y l=>rw[sm,sm,sm,sm];grind
 | trans _ _ i1 i2=>rw[i1,i2]
section
variable {l:List QL}{o pre r:List Int}{v:Int}{b:List NQ}
theorem aOL (hb:Base l o)(hi:TInv l o pre (v::r) b):∀ x∈(nxt l o v b).msgs,x.a∈psN (nxt l o v b).cond/\x.b∈psN (nxt l o v b).cond/\x.a<x.b:=by
 obtain⟨n,h1,hv,v1,v9,hl,nV,hV⟩:=hi.facts hb
 have hinc:=hi.inc hb
 obtain⟨c1,c2,c3,c4,c5,c6,c7⟩:=aOQ (order:=o) hinc
 have hsp:=hi.split
 intro x hx
 have hj:=(hinc.join).2.1
 refine⟨?_,?_,(c5 x hx).2.2.2⟩
 all_goals
  obtain⟨y,hy,e1,e2⟩:=qX _ [] 0 x hx
  have hy:=hy.resolve_left (by simp)
  rcases aTR.1 hy with hy | hy
  · obtain⟨m1,m2,m3⟩:=aAz.1 hy
    obtain⟨z,hz,f1,f2⟩:=qX _ [] 0 y m1
    have hz:=hz.resolve_left (by simp)
    rcases aTR.1 hz with hz | hz
    · exfalso
      have:=(aUb.1 hz).2
      rw[hsp]at this
      have:=((aDM n h1).1 this).1
      omega
    · obtain⟨c,hc,hu2,hz⟩:=yM.1 hz
      obtain⟨_,hk⟩:=hi.kid_ps hb hc hu2
      obtain⟨_,_,p3,_⟩:=hi.ps c hc (by rw[hu2];simp)
      have g1:=(p3 z hz).1
      have g2:=(p3 z hz).2.1
      rw[f1,e1]at g1
      rw[f2,e2]at g2
      first | exact hk _ g1 (by omega) | exact hk _ g2 (by omega)
  · obtain⟨_,_,_,_,⟨y1,hy1,q1⟩,y2,hy2,q2⟩:=hj.arms.each hy
    have e:psN (nxt l o v b).cond=(bP v (aR (l.filter (qG o v)++oW v b) [] 0).1).map fun x=>x.a:=aBQ v _
    rw[e]
    first | exact aT5.2 ⟨y1,hy1,q1.trans e1⟩ | exact aT5.2 ⟨y2,hy2,q2.trans e2⟩
theorem aON (hb:Base l o)(hi:TInv l o pre (v::r) b)(h:(nxt l o v b).up∉r):(nxt l o v b).msgs=[]:=by
 rw[aVK]
 intro x hx
 obtain⟨h1,h2,h3⟩:=aOL hb hi x hx
 by_cases c:x.b=0
 · have:=hi.nxt_rem hb _ h1
   have h5:0<=x.a:=by
    rcases aTM.1 this.1 with g | g
    · omega
    · have:=(hi.facts hb).2.1 x.a (by simp[g]);omega
   omega
 · exact h (hi.nxt_up hb h2 c)
theorem aIi (hb:Base l o)(hi:TInv l o pre (v::r) b):(∀ x∈l.filter (qG o v)++oW v b,0<x.w)/\0<sm wt (bP v (aR (l.filter (qG o v)++oW v b) [] 0).1):=by
 have hinc:=hi.inc hb
 exact⟨fun x hx=>(hinc.lk x hx).1.sc.1,(hinc.join).2.1.arms.pos⟩
theorem aFE (p q:Int->Q)(hb:Base l o)(hg:Grounded l o):∀ (n:Nat) (pre rem:List Int),pre.length=n->o=pre++rem->
 sm (eP p q) (l.filter fun x=>decide (aT o [x.a,x.b]∈pre))=sn (fun n=>cdE p q n.cond+n.enQ) (aE l o pre [])+sm (eP p q) (dS ((aE l o pre []).filter (iZ rem)))
 | 0,pre,rem,hn,e=>by
  have:pre=[]:=aTW.1 hn
  subst this
  have e1:(l.filter fun x=>decide (aT o [x.a,x.b]∈([]:List Int)))=[]:=by simp
  rw[e1]
  simp only[aE,aVA,dS,aVi,sm,sn]
  grind
 | n+1,pre,rem,hn,e=>by
  rcases aVD pre with rfl | ⟨q',v,rfl⟩
  · simp at hn
  rw[aVE]at hn e ⊢
  have eo:o=q'++v::rem:=by rw[e,aT0];rfl
  have ih:=aFE p q hb hg n q' (v::rem) (by simpa using hn) eo
  have ti:=TInv.at hb hg q'.length q' (v::rem) rfl eo
  obtain⟨nd,h1,hv,v1,v9,hl,nV,hV⟩:=ti.facts hb
  obtain⟨fp1,fp2⟩:=aIi hb ti
  have hN:=aQG p q fp1 fp2
  rw[vL,aK0]
  simp only[sn]
  have vq:v∉q':=fun h=>by
   have:=hb.nd
   rw[eo]at this
   exact(aT6.1 this).2.2 v h v (by simp) rfl
  have s1:sm (eP p q) (l.filter fun x=>decide (aT o [x.a,x.b]∈q'++[v]))=sm (eP p q) (l.filter fun x=>decide (aT o [x.a,x.b]∈q'))+sm (eP p q) (l.filter (qG o v)):=by
   rw[aBK (eP p q) (fun x=>decide (aT o [x.a,x.b]∈q')),aU2,aU2]
   congr 2
   · refine aVl fun x _=>?_
     by_cases c:aT o [x.a,x.b]∈q' <;> simp[c]
   · refine aVl fun x _=>?_
     unfold qG
     by_cases c:aT o [x.a,x.b]=v
     · simp[c,vq]
     · by_cases d:aT o [x.a,x.b]∈q' <;> simp[c,d]
  have s2:sm (eP p q) (dS ((aE l o q' []).filter (iZ (v::rem))))=sm (eP p q) (oW v (aE l o q' []))+sm (eP p q) (dS ((aE l o q' []).filter (iZ rem))):=by
   rw[aDg (eP p q) (kid v),aGU,aEL hv]
   rfl
  have s3:sm (eP p q) (dS ((aE l o q' []++[nxt l o v (aE l o q' [])]).filter (iZ rem)))=sm (eP p q) (dS ((aE l o q' []).filter (iZ rem)))+sm (eP p q) (nxt l o v (aE l o q' [])).msgs:=by
   unfold dS
   rw[aVT,aVz,mV,aUn,aVA]
   by_cases c:(nxt l o v (aE l o q' [])).up∈rem
   · have:iZ rem (nxt l o v (aE l o q' []))=true:=aTN c
     rw[aTK this,aUk,aVi,aUJ]
   · have:¬iZ rem (nxt l o v (aE l o q' []))=true:=fun h=>c (aUi h)
     rw[aTJ this,aON hb ti c,aVi]
  rw[s1,s3,ih,s2]
  grind
end
theorem aFW (p q:Int->Q){l:List QL}{o:List Int}(h:Tie l o):sm (eP p q) l=sn (fun n=>cdE p q n.cond) (aE l o o [])+sn (fun n=>n.enQ) (aE l o o []):=by
 have e:=aFE p q h.base h.gr o.length o [] rfl (by simp)
 have e1:(l.filter fun x=>decide (aT o [x.a,x.b]∈o))=l:=List.filter_eq_self.2 fun x hx=>aTN (h.owner x hx)
 have e2:(aE l o o []).filter (iZ [])=[]:=List.filter_eq_nil_iff.2 fun c _ hc=>by have:=aUi hc;simp at this
 rw[e1,e2,aK1]at e
 rw[e]
 simp only[dS,aVi,sm]
 grind
def sol (g:PQ->Q):List NQ->Int->Q
 | [],_=>0
 | n::r,u=>if u=n.node then app (sol g r) g n.cond.ps else sol g r u
theorem aER {f f':Int->Q}(g:PQ->Q):∀ {ps:List PQ},(∀ x∈ps,f x.node=f' x.node)->app f g ps=app f' g ps
 | [],_=>rfl
 | x::r,h=>by rw[app,app,h x (by simp),aER g fun y hy=>h y (by simp[hy])]
def Dn (b:List NQ):Prop:=b.Pairwise (fun n c=>n.node∉psN c.cond/\n.node≠c.node)/\∀ n∈b,n.node∉psN n.cond/\n.cond.node=n.node
theorem Dn.tail {n:NQ}{r:List NQ}(h:Dn (n::r)):Dn r:=⟨(aUp.1 h.1).2,fun c hc=>h.2 c (by simp[hc])⟩
theorem aF4 (g:PQ->Q):∀ {b:List NQ},Dn b->∀ n∈b,sol g b n.node=app (sol g b) g n.cond.ps
 | c::r,h,n,hn=>by
  have hp:=(aUp.1 h.1).1
  have key:∀ m:NQ,c.node∉psN m.cond->app (sol g (c::r)) g m.cond.ps=app (sol g r) g m.cond.ps:=fun m hm =>
   aER g fun x hx=>by
    have:x.node≠c.node:=fun e=>hm (e▸aU9 hx)
    rw[sol,aTJ this]
  rcases aTM.1 hn with rfl | hn
  · rw[key n (h.2 n (by simp)).1,sol,aTK rfl]
  · obtain⟨h1,h2⟩:=hp n hn
    rw[key n h1,<- aF4 g h.tail n hn,sol,aTJ (fun e=>h2 e.symm)]
theorem aFF (g:PQ->Q):∀ (b:List NQ) (u:Int),(∀ n∈b,n.node≠u)->sol g b u=0
 | [],_,_=>rfl
 | n::r,u,h=>by rw[sol,aTJ (fun e=>h n (by simp) e.symm),aFF g r u fun c hc=>h c (by simp[hc])]
theorem aDy (g:PQ->Q)(p:Int->Q):∀ {b:List NQ},Dn b->(∀ n∈b,p n.node=app p g n.cond.ps)->(∀ n∈b,∀ u∈psN n.cond,(∃ c∈b,c.node=u)\/p u=0)->∀ n∈b,p n.node=sol g b n.node
 | c::r,h,hp,hu,n,hn=>by
  have hpw:=(aUp.1 h.1).1
  have ih:=aDy g p h.tail (fun m hm=>hp m (by simp[hm])) (fun m hm u hu'=>by
   rcases hu m (by simp[hm]) u hu' with⟨d,hd,e⟩ | h0
   · rcases aTM.1 hd with rfl | hd
     · exact absurd (e▸hu') (hpw m hm).1
     · exact .inl ⟨d,hd,e⟩
   · exact .inr h0)
  rcases aTM.1 hn with rfl | hn
  · rw[hp n (by simp),sol,aTK rfl]
    refine aER g fun x hx=>?_
    have hm:x.node∈psN n.cond:=aU9 hx
    by_cases c1:∃ d∈r,d.node=x.node
    · obtain⟨d,hd,e⟩:=c1
      rw[<- e];exact ih d hd
    · rw[aFF g r _ fun d hd e=>c1 ⟨d,hd,e⟩]
      rcases hu n (by simp) _ hm with⟨d,hd,e⟩ | h0
      · rcases aTM.1 hd with rfl | hd
        · exact absurd (e▸hm) (h.2 d (by simp)).1
        · exact absurd ⟨d,hd,e⟩ c1
      · exact h0
  · rw[sol,aTJ (fun e=>(hpw n hn).2 e.symm)]
    exact ih n hn
theorem aDv (x:Q):0<=x*x:=by
 rcases Std.le_total (a:=0) (b:=x)with h | h
 · exact aUt h h
 · have:=aUt (a:=-x) (b:=-x) (by grind) (by grind)
   grind
theorem aQm {x y:Q}(h:sqQ x y=0):x=0/\y=0:=by
 unfold sqQ at h
 have h1:=aDv x
 have h2:=aDv y
 have e1:x*x=0:=by grind
 have e2:y*y=0:=by grind
 constructor
 · rcases aWB.1 e1 with h | h <;> exact h
 · rcases aWB.1 e2 with h | h <;> exact h
theorem aLI (p q:Int->Q){c:CQ}(h:0<c.t):0<=cdE p q c:=by
 unfold cdE sqQ
 exact aUt (by grind) (by have:=aDv (p c.node-app p (·.x) c.ps);have:=aDv (q c.node-app q (·.y) c.ps);grind)
theorem aPC {p q:Int->Q}{c:CQ}(h:0<c.t)(h0:cdE p q c=0):p c.node=app p (·.x) c.ps/\q c.node=app q (·.y) c.ps:=by
 unfold cdE at h0
 rcases aWB.1 h0 with h1 | h1
 · grind
 · obtain⟨e1,e2⟩:=aQm h1
   constructor <;> grind
theorem aRC (p q:Int->Q){x:QL}(h:0<x.w):0<=eP p q x:=by
 unfold eP sqQ
 exact aUt (by grind) (by have:=aDv (p x.b-p x.a-x.x);have:=aDv (q x.b-q x.a-x.y);grind)
/- Two trees of the same links: the same solution, the same energy. -/
theorem aIE {l:List QL}{o:List Int}(h:Tie l o):∀ (n:Nat) (pre rem:List Int),pre.length=n->o=pre++rem->
 Dn (aE l o pre [])/\∀ c∈aE l o pre [],c.node∈pre/\0<c.cond.t/\∀ u∈psN c.cond,u=0\/u∈o
 | 0,pre,rem,hn,e=>by
  have:pre=[]:=aTW.1 hn
  subst this
  exact⟨⟨List.Pairwise.nil,by simp[aE]⟩,by simp[aE]⟩
 | n+1,pre,rem,hn,e=>by
  rcases aVD pre with rfl | ⟨q,v,rfl⟩
  · simp at hn
  rw[aVE]at hn e ⊢
  have eo:o=q++v::rem:=by rw[e,aT0];rfl
  obtain⟨⟨i1,i2⟩,i3⟩:=aIE h n q (v::rem) (by simpa using hn) eo
  have ti:=TInv.at h.base h.gr q.length q (v::rem) rfl eo
  obtain⟨fp1,fp2⟩:=aIi h.base ti
  have hrem:=ti.nxt_rem h.base
  have nd:=h.nd
  rw[eo]at nd
  have nd2:=aT6.1 nd
  rw[vL]
  refine⟨⟨?_,?_⟩,?_⟩
  · rw[aVf]
    refine⟨i1,by simp,fun c hc d hd=>?_⟩
    rw[aUA.1 hd]
    have cq:=(i3 c hc).1
    have c1:=(h.five c.node (by rw[eo];simp[cq])).1
    refine⟨fun hm=>?_,fun e=>?_⟩
    · rcases aTM.1 (hrem _ hm).1 with g | g
      · omega
      · exact nd2.2.2 _ cq _ (aUv _ g) rfl
    · have:c.node=v:=e
      exact nd2.2.2 _ cq _ (by simp) this
  · intro c hc
    rcases aTR.1 hc with hc | hc
    · exact i2 c hc
    · rw[aUA.1 hc]
      exact⟨fun hm=>(hrem _ hm).2 rfl,rfl⟩
  · intro c hc
    rcases aTR.1 hc with hc | hc
    · obtain⟨g1,g2,g3⟩:=i3 c hc
      exact⟨by simp[g1],g2,g3⟩
    · rw[aUA.1 hc]
      refine⟨by simp[show(nxt l o v (aE l o q [])).node=v from rfl],fp2,fun u hu=>?_⟩
      rcases aTM.1 (hrem u hu).1 with g | g
      · exact .inl g
      · exact .inr (by rw[eo];simp[g])
theorem Tie.dn {l:List QL}{o:List Int}(h:Tie l o):Dn (aE l o o [])/\∀ c∈aE l o o [],c.node∈o/\0<c.cond.t/\∀ u∈psN c.cond,u=0\/u∈o:=aIE h o.length o [] rfl (by simp)
theorem yD {l:List QL}{o:List Int}{u:Int}(h:u∈o):∃ c∈aE l o o [],c.node=u:=by
 have e:=zJ l o o []
 have:u∈(aE l o o []).map (fun n=>n.node):=by rw[e];simpa using h
 obtain⟨c,hc,e2⟩:=aT5.1 this
 exact⟨c,hc,e2⟩
theorem aQp (g:PQ->Q){l:List QL}{o:List Int}(h:Tie l o):sol g (aE l o o []) 0=0 :=
 aFF g _ 0 fun n hn e=>by
  have:=(h.five _ ((h.dn).2 n hn).1).1
  omega
theorem aRl {l:List QL}{o:List Int}(h:Tie l o):sm (eP (sol (·.x) (aE l o o [])) (sol (·.y) (aE l o o []))) l=sn (fun n=>n.enQ) (aE l o o []):=by
 obtain⟨d,_⟩:=h.dn
 rw[aFW _ _ h,aIM fun n hn=>by
  have e1:=aF4 (·.x) d n hn
  have e2:=aF4 (·.y) d n hn
  unfold cdE
  rw[(d.2 n hn).2,e1,e2]
  unfold sqQ
  grind]
 grind
theorem aQo {l l':List QL}{o:List Int}(h:Tie l o)(hl:l'.Perm l)(p q:Int->Q):sn (fun n=>n.enQ) (aE l o o [])<=sm (eP p q) l'/\(p 0=0->q 0=0->sm (eP p q) l'<=sn (fun n=>n.enQ) (aE l o o [])->∀ u∈o,p u=sol (·.x) (aE l o o []) u/\q u=sol (·.y) (aE l o o []) u):=by
 obtain⟨d,f⟩:=h.dn
 have e:=aFW p q h
 rw[aQq hl,e]
 have nn:=aCo (f:=fun n=>cdE p q n.cond) (l:=aE l o o []) fun n hn=>aLI p q (f n hn).2.1
 refine⟨by grind,fun p0 q0 hle u hu=>?_⟩
 have z:=aKZ (f:=fun n=>cdE p q n.cond) (l:=aE l o o []) (fun n hn=>aLI p q (f n hn).2.1) (by grind)
 have hz:∀ n∈aE l o o [],p n.node=app p (·.x) n.cond.ps/\q n.node=app q (·.y) n.cond.ps:=fun n hn=>by
  have:=aPC (f n hn).2.1 (z n hn)
  rw[(d.2 n hn).2]at this
  exact this
 have hps:∀ (w:Int->Q),w 0=0->∀ n∈aE l o o [],∀ u∈psN n.cond,(∃ c∈aE l o o [],c.node=u)\/w u=0:=fun w hw n hn u hu=>by
  rcases(f n hn).2.2 u hu with h0 | h0
  · exact .inr (by rw[h0];exact hw)
  · exact .inl (yD h0)
 obtain⟨c,hc,rfl⟩:=yD (l:=l) hu
 exact⟨aDy (·.x) p d (fun n hn=>(hz n hn).1) (hps p p0) c hc,aDy (·.y) q d (fun n hn=>(hz n hn).2) (hps q q0) c hc⟩
/- Positions have few digits. -/
def aPY (k:Nat)(n:NQ):Prop:=∃ (D X:Nat) (a:List QL),n.cond=pK n.node a/\Arms D X n.node a/\72*D<=ex k
def aCk:Nat->List NQ->Prop
 | _,[]=>True
 | k,n::r=>aPY k n/\aCk (k+1) r
theorem aFd {n:NQ}:∀ {k:Nat} {b:List NQ},aCk k b->aPY (k+b.length) n->aCk k (b++[n])
 | k,[],_,h=>⟨by simpa using h,trivial⟩
 | k,m::r,h,g=>⟨h.1,aFd h.2 (by rw[aUh]at g;rw[show k+1+r.length=k+(r.length+1)by omega];exact g)⟩
theorem aCj {n:NQ}:∀ {k:Nat} {a b:List NQ},aCk k (a++b)->aCk (k+a.length) b
 | k,[],b,h=>h
 | k,m::a,b,h=>by
  have:=aCj (n:=n) (k:=k+1) (a:=a) h.2
  rw[aUh,show k+(a.length+1)=k+1+a.length by omega];exact this
section
variable {l:List QL}{o pre r:List Int}{v:Int}{b:List NQ}
theorem aSj (hb:Base l o)(hi:TInv l o pre (v::r) b):72*aCL v b<=ex b.length:=by
 obtain⟨k1,k2,k3⟩:=hi.kids
 have hH:dW (fun c:NQ=>72*c.den) (b.filter (kid v))<=ex b.length:=aTY (aTY (aVd _ k2) k1) (aLy _)
 have ex72:72<=ex b.length:=by
  unfold ex
  have:1<=2 ^ b.length:=Nat.one_le_two_pow
  calc 72=72 ^ 1:=rfl
   _<=_:=aUu (by omega) this
 by_cases c:b.filter (kid v)=[]
 · have:aCL v b=1:=by
    have e:aCL v b=dW (fun c:NQ=>c.den) (b.filter (kid v)):=rfl
    rw[e,c];rfl
   rw[this];omega
 · exact aTY (aDJ _ _ c) hH
theorem aNf (hb:Base l o)(hi:TInv l o pre (v::r) b):aPY b.length (nxt l o v b) :=
 ⟨aCL v b,20*2 ^ b.length,bP v (aR (l.filter (qG o v)++oW v b) [] 0).1,rfl,((hi.inc hb).join).2.1.arms,aSj hb hi⟩
theorem aBF (hb:Base l o)(hg:Grounded l o):∀ (n:Nat) (pre rem:List Int),pre.length=n->o=pre++rem->aCk 0 (aE l o pre [])
 | 0,pre,rem,hn,e=>by
  have:pre=[]:=aTW.1 hn
  subst this
  exact trivial
 | n+1,pre,rem,hn,e=>by
  rcases aVD pre with rfl | ⟨q,v,rfl⟩
  · simp at hn
  rw[aVE]at hn e ⊢
  have eo:o=q++v::rem:=by rw[e,aT0];rfl
  have ih:=aBF hb hg n q (v::rem) (by simpa using hn) eo
  have ti:=TInv.at hb hg q.length q (v::rem) rfl eo
  rw[vL]
  refine aFd ih ?_
  rw[aUg]
  exact aNf hb ti
end
def epr:Nat->Nat->Nat
 | _,0=>1
 | k,n+1=>ex k*epr (k+1) n
theorem aLz {k n:Nat}(h:k+n<=5):epr k n<=PP ^ 2:=by
 have:∀ k,k<=5->∀ n,n<=5-k->epr k n<=PP ^ 2:=by unfold PP;decide
 exact this k (by omega) n (by omega)
structure Co (g:PQ->Q)(gl:QL->Q):Prop where
 par:∀ t a,g (zH t a)=gl a
 lk:∀ {D X:Nat} {y:QL},0<D->Lk D X y->bd X (gl y)/\Dv D (y.w*gl y)/\Dv (nm D y.w) (gl y)
theorem cox:Co (·.x) (·.x):=⟨fun _ _=>rfl,fun hD h=>⟨h.bx,h.sc.2.2.1,(aJp hD h.sc).1⟩⟩
theorem coy:Co (·.y) (·.y):=⟨fun _ _=>rfl,fun hD h=>⟨h.by',h.sc.2.2.2,(aJp hD h.sc).2⟩⟩
def aCN (T M:Nat)(f:Int->Q):Prop:=0<T/\∀ u,Dv T (f u)/\bd M (f u)
def qH (f:Int->Q)(gl:QL->Q)(a:List QL):Q:=sm (fun y=>y.w*(f y.a+gl y)) a
theorem aMN {g:PQ->Q}{gl:QL->Q}(hg:Co g gl)(f:Int->Q)(t:Q):∀ a:List QL,app f g (a.map (zH t))=qH f gl a / t
 | []=>by simp only[aUH,app,qH,sm];grind
 | x::a=>by
  have ih:=aMN hg f t a
  unfold qH at ih ⊢
  rw[aTV,app,sm,ih,hg.par]
  unfold zH
  simp only[]
  grind
theorem aL1 {g:PQ->Q}{gl:QL->Q}(hg:Co g gl){f:Int->Q}{T M D X:Nat}(hf:aCN T M f)(hD:0<D):∀ a:List QL,(∀ x∈a,Lk D X x)->Dv (D*T) (qH f gl a)/\-((M+X:Nat):Q)*sm wt a<=qH f gl a/\qH f gl a<=((M+X:Nat):Q)*sm wt a
 | [],_=>by
  unfold qH
  simp only[sm]
  exact⟨⟨0,by simp⟩,by grind,by grind⟩
 | y::a,h=>by
  obtain⟨i1,i2,i3⟩:=aL1 hg hf hD a (fun x hx=>h x (by simp[hx]))
  have hy:=h y (by simp)
  obtain⟨g1,g2,g3⟩:=hg.lk hD hy
  obtain⟨f1,f2⟩:=hf.2 y.a
  have b:=aC9 hy.sc.1 (aDp f2 g1)
  unfold qH at i1 i2 i3 ⊢
  rw[sm,sm]
  have e:y.w*(f y.a+gl y)=y.w*f y.a+y.w*gl y:=by grind
  refine⟨lF ?_ i1,?_,?_⟩
  · rw[e]
    exact lF (sH hy.sc.2.1 f1) (pL T g2)
  · unfold wt at i2 ⊢;grind
  · unfold wt at i3 ⊢;grind
theorem aMk {g:PQ->Q}{gl:QL->Q}(hg:Co g gl){f:Int->Q}{T M D X:Nat}{v:Int}{a:List QL}(hf:aCN T M f)(h:Arms D X v a){a1:List QL}(h1:∀ x∈a1,Lk D X x)(hle:sm wt a1<=sm wt a) :
 Dv (nm D (sm wt a)*T) (qH f gl a1 / sm wt a)/\bd (M+X) (qH f gl a1 / sm wt a):=by
 have hp:=h.pos
 have hN:=(zV h.hD hp (aAt h.lk)).1
 obtain⟨d1,d2,d3⟩:=aL1 hg hf h.hD a1 h1
 have n1:=jF h1
 have nn:=xN (M+X)
 have m2:=aUt nn (b:=sm wt a-sm wt a1) (by grind)
 constructor
 · obtain⟨z,hz⟩:=d1
   refine⟨z,?_⟩
   rw[aUO,hN,<- hz,aUO]
   grind
 · have k1:-((M+X:Nat):Q)*sm wt a<=qH f gl a1:=by
    generalize ((M+X:Nat):Q)=K at *
    grind
   have k2:qH f gl a1<=((M+X:Nat):Q)*sm wt a:=by
    generalize ((M+X:Nat):Q)=K at *
    grind
   exact aEQ hp k1 k2
theorem aDK {g:PQ->Q}{gl:QL->Q}(hg:Co g gl){f:Int->Q}{T M D X:Nat}{v:Int}{a:List QL}(hf:aCN T M f)(h:Arms D X v a){a1 a2:List QL}(e:a=a1++a2) :
 Dv (nm D (sm wt a)*T) (qH f gl a1 / sm wt a)/\bd (M+X) (qH f gl a1 / sm wt a):=by
 have h2:∀ x∈a2,Lk D X x:=fun x hx=>h.lk x (by rw[e];simp[hx])
 have n2:=jF h2
 have es:sm wt a=sm wt a1+sm wt a2:=by rw[e,mV]
 exact aMk hg hf h (fun x hx=>h.lk x (by rw[e];simp[hx])) (by grind)
theorem aJN {g:PQ->Q}{gl:QL->Q}(hg:Co g gl){n:NQ}{r:List NQ}{D X T:Nat}{a:List QL}(e1:n.cond=pK n.node a)(ha:Arms D X n.node a)(t2:aCN T (400*r.length) (sol g r)):aCN (nm D (sm wt a)*T) (400*(r.length+1)) (sol g (n::r)):=by
 obtain⟨n1,n2⟩:=ha.nN
 obtain⟨p1,p2⟩:=aDK hg t2 ha (a1:=a) (a2:=[]) (by simp)
 have hX:=ha.hX
 refine⟨aUq n1 t2.1,fun u=>?_⟩
 rw[sol]
 by_cases c:u=n.node
 · rw[aTK c,e1]
   have:(pK n.node a).ps=a.map (zH (sm wt a)):=rfl
   rw[this,aMN hg]
   exact⟨p1,xT p2 (by omega)⟩
 · rw[aTJ c]
   obtain⟨q1,q2⟩:=t2.2 u
   exact⟨xP q1 (aV4 _ _),xT q2 (by omega)⟩
theorem aDz:∀ (b:List NQ) (k:Nat),aCk k b->∃ T,T<=epr k b.length/\aCN T (400*b.length) (sol (·.x) b)/\aCN T (400*b.length) (sol (·.y) b)
 | [],k,_=>⟨1,by simp[epr],⟨by omega,fun u=>⟨⟨0,by simp[sol]⟩,by unfold bd;simp[sol]⟩⟩,⟨by omega,fun u=>⟨⟨0,by simp[sol]⟩,by unfold bd;simp[sol]⟩⟩⟩
 | n::r,k,h=>by
  obtain⟨⟨D,X,a,e1,ha,hk⟩,hr⟩:=h
  obtain⟨T,t1,t2,t3⟩:=aDz r (k+1) hr
  obtain⟨n1,n2⟩:=ha.nN
  exact⟨nm D (sm wt a)*T,aUd (aTY n2 hk) t1,aJN cox e1 ha t2,aJN coy e1 ha t3⟩
/- Gauss-Jordan over the rational numbers: what a step keeps. -/
def su (f:Nat->Q):Nat->Nat->Q
 | _,0=>0
 | a,m+1=>f a+su f (a+1) m
theorem aIK (f g:Nat->Q):∀ a m,su (fun j=>f j+g j) a m=su f a m+su g a m
 | _,0=>by simp only[su];grind
 | a,m+1=>by rw[su,su,su,aIK f g (a+1) m];grind
theorem aF1 (k:Q)(f:Nat->Q):∀ a m,su (fun j=>k*f j) a m=k*su f a m
 | _,0=>by simp only[su];grind
 | a,m+1=>by rw[su,su,aF1 k f (a+1) m];grind
theorem sK {f g:Nat->Q}:∀ {a m:Nat},(∀ j,a<=j->j<a+m->f j=g j)->su f a m=su g a m
 | _,0,_=>rfl
 | a,m+1,h=>by rw[su,su,h a (aTU _) (by omega),sK fun j h1 h2=>h j (by omega) (by omega)]
theorem aBH (f:Nat->Q):∀ a m l,su f a (m+l)=su f a m+su f (a+m) l
 | a,0,l=>by rw[aUg];simp only[su,aUw];grind
 | a,m+1,l=>by
  rw[show m+1+l=(m+l)+1 by omega,su,su,aBH f (a+1) m l,show a+1+m=a+(m+1)by omega]
  grind
theorem aIJ {f:Nat->Q}{a m:Nat}(h:∀ j,a<=j->j<a+m->f j=0):su f a m=0:=by
 rw[sK (g:=fun _=>0) h]
 induction m generalizing a with
 | zero=>rfl
 | succ m ih=>rw[su,ih fun j h1 h2=>h j (by omega) (by omega)];grind
theorem aJJ {f:Nat->Q}:∀ {a m:Nat},(∀ j,a<=j->j<a+m->f j<=0)->su f a m<=0
 | _,0,_=>by simp[su]
 | a,m+1,h=>by
  have h1:=h a (aTU _) (by omega)
  have h2:=aJJ (f:=f) (a:=a+1) (m:=m) fun j h1 h2=>h j (by omega) (by omega)
  rw[su];grind
theorem aN8 {f:Nat->Q}:∀ {a m:Nat},(∀ j,a<=j->j<a+m->f j<=0)->∀ j,a<=j->j<a+m->su f a m<=f j
 | a,0,_,j,h1,h2=>by omega
 | a,m+1,h,j,h1,h2=>by
  have h3:=h a (aTU _) (by omega)
  have hr:=fun i (g1:a+1<=i) (g2:i<a+1+m)=>h i (by omega) (by omega)
  rw[su]
  by_cases c:j=a
  · subst c
    have:=aJJ hr
    grind
  · have:=aN8 hr j (by omega) (by omega)
    grind
theorem aKY (f:Nat->Q)(n i:Nat)(hi:i<n)(h:∀ j,j<n->j≠i->f j=0):su f 0 n=f i:=by
 have e:n=i+(1+(n-i-1)):=by omega
 rw[e,aBH,aBH,aIJ (a:=0) (m:=i) fun j h1 h2=>h j (by omega) (by omega),aIJ (a:=0+i+1) fun j h1 h2=>h j (by omega) (by omega)]
 simp only[su,aUg]
 grind
def gj (k:Nat)(A:Nat->Nat->Q):Nat->Nat->Q:=fun i j=>if i=k then A k j / A k k else A i j-(A k j / A k k)*A i k
theorem aG1 (k:Nat)(A:Nat->Nat->Q)(j:Nat):gj k A k j=A k j / A k k:=by unfold gj;rw[aTK rfl]
theorem aAc {k i:Nat}(h:i≠k)(A:Nat->Nat->Q)(j:Nat):gj k A i j=A i j-(A k j / A k k)*A i k:=by unfold gj;rw[aTJ h]
def Sat (n:Nat)(A:Nat->Nat->Q)(b:Nat->Q)(x:Nat->Q):Prop:=∀ i,i<n->su (fun j=>A i j*x j) 0 n=b i
theorem aEP {n k i:Nat}(A:Nat->Nat->Q)(x:Nat->Q)(hp:A k k≠0):su (fun j=>gj k A i j*x j) 0 n=if i=k then su (fun j=>A k j*x j) 0 n / A k k else su (fun j=>A i j*x j) 0 n-(A i k / A k k)*su (fun j=>A k j*x j) 0 n:=by
 by_cases c:i=k
 · subst c
   rw[aTK rfl,sK (g:=fun j=>(1 / A i i)*(A i j*x j)) (fun j _ _=>by rw[aG1];grind),aF1]
   grind
 · rw[aTJ c,sK (g:=fun j=>A i j*x j+(-(A i k / A k k))*(A k j*x j)) (fun j _ _=>by rw[aAc c];grind),aIK,aF1]
   grind
theorem aSd {n k c:Nat}(hk:k<n)(A:Nat->Nat->Q)(x:Nat->Q)(hp:A k k≠0):Sat n (gj k A) (fun i=>gj k A i c) x↔Sat n A (fun i=>A i c) x:=by
 show(∀ i,i<n->su (fun j=>gj k A i j*x j) 0 n=gj k A i c)↔(∀ i,i<n->su (fun j=>A i j*x j) 0 n=A i c)
 constructor
 · intro h i hi
   have hk':=h k hk
   rw[aEP A x hp,aTK rfl,aG1]at hk'
   have e1:su (fun j=>A k j*x j) 0 n=A k c:=by grind
   by_cases ci:i=k
   · rw[ci];exact e1
   · have hi':=h i hi
     rw[aEP A x hp,aTJ ci,aAc ci,e1]at hi'
     grind
 · intro h i hi
   have e1:=h k hk
   rw[aEP A x hp]
   by_cases ci:i=k
   · rw[aTK ci,ci,aG1,e1]
   · rw[aTJ ci,aAc ci,e1,h i hi]
     grind
theorem aSe {n k:Nat}(hk:k<n)(A:Nat->Nat->Q)(x:Nat->Q)(hp:A k k≠0):Sat n (gj k A) (fun _=>0) x↔Sat n A (fun _=>0) x:=by
 show(∀ i,i<n->su (fun j=>gj k A i j*x j) 0 n=0)↔(∀ i,i<n->su (fun j=>A i j*x j) 0 n=0)
 constructor
 · intro h i hi
   have hk':=h k hk
   rw[aEP A x hp,aTK rfl]at hk'
   have e1:su (fun j=>A k j*x j) 0 n=0:=by grind
   by_cases ci:i=k
   · rw[ci];exact e1
   · have hi':=h i hi
     rw[aEP A x hp,aTJ ci,e1]at hi'
     grind
 · intro h i hi
   have e1:=h k hk
   rw[aEP A x hp]
   by_cases ci:i=k
   · rw[aTK ci,e1];grind
   · rw[aTJ ci,e1,h i hi];grind
structure GJ (n k:Nat)(A:Nat->Nat->Q):Prop where
 unit:∀ i j,i<n->j<k->A i j=if i=j then 1 else 0
 sym:∀ i j,k<=i->i<n->k<=j->j<n->A i j=A j i
 off:∀ i j,k<=i->i<n->k<=j->j<n->i≠j->A i j<=0
 diag:∀ i,k<=i->i<n->A i i<=72
 rsum:∀ i,k<=i->i<n->0<=su (A i) k (n-k)
 top:∀ i j,i<k->k<=j->j<n->A i j<=0
 tsum:∀ i,i<k->-1<=su (A i) k (n-k)
 ker:∀ x,Sat n A (fun _=>0) x->∀ i,i<n->x i=0
section
variable {n k:Nat}{A:Nat->Nat->Q}
theorem GJ.sum_k (h:GJ n k A)(hk:k<n)(i:Nat):su (A i) k (n-k)=A i k+su (A i) (k+1) (n-(k+1)):=by
 rw[show n-k=(n-(k+1))+1 by omega,su]
theorem GJ.piv (h:GJ n k A)(hk:k<n)(hkn:k<=n):0<A k k:=by
 have r:=h.rsum k (aTU _) hk
 rw[h.sum_k hk]at r
 have np:∀ j,k+1<=j->j<k+1+(n-(k+1))->A k j<=0:=fun j h1 h2=>h.off k j (aTU _) hk (by omega) (by omega) (by omega)
 have s:=aJJ np
 have key:A k k≠0:=fun e=>by
  have z:∀ j,k+1<=j->j<n->A k j=0:=fun j h1 h2=>by
   have:=aN8 np j h1 (by omega)
   have:=np j h1 (by omega)
   grind
  have:=h.ker (fun j=>if j<k then-A j k else if j=k then 1 else 0) (fun i hi=>by
   have hsp:su (fun j=>A i j*(if j<k then-A j k else if j=k then 1 else 0)) 0 n=su (fun j=>A i j*(if j<k then-A j k else 0)) 0 n+A i k:=by
    have e1:su (fun j=>A i j*(if j=k then(1:Q)else 0)) 0 n=A i k:=by
     rw[aKY _ n k hk fun j _ hj=>by rw[aTJ hj];grind]
     simp only[aT3];grind
    rw[<- e1,<- aIK]
    refine sK fun j _ _=>?_
    by_cases c:j<k
    · rw[aTK c,aTK c,aTJ (by omega)];grind
    · rw[aTJ c,aTJ c];grind
   rw[hsp]
   by_cases c:i<k
   · rw[aKY _ n i hi fun j hj hji=>by
      by_cases cj:j<k
      · rw[aTK cj,h.unit i j hi cj,aTJ (fun e=>hji e.symm)];grind
      · rw[aTJ cj];grind]
     simp only[aTK c]
     rw[h.unit i i hi c,aTK rfl]
     grind
   · rw[aIJ fun j _ hj=>by
      by_cases cj:j<k
      · rw[h.unit i j hi cj,aTJ (by omega)];grind
      · rw[aTJ cj];grind]
     by_cases ci:i=k
     · rw[ci,e];grind
     · rw[h.sym i k (by omega) hi (aTU _) hk,z i (by omega) hi];grind) k hk
  simp at this
 grind
theorem aLh {a b:Q}(h1:a<=0)(h2:b<=0):0<=a*b:=by
 have:=aUt (a:=-a) (b:=-b) (by grind) (by grind)
 grind
theorem aDf {a p:Q}(h1:a<=0)(hp:0<p):a / p<=0:=by
 have:=aUt (a:=-a) (b:=1 / p) (by grind) (by
  have:0<1 / p:=by rw[_root_.Rat.lt_div_iff hp];grind
  grind)
 grind
theorem aRZ {a p:Q}(h1:0<=a)(hp:0<p):0<=a / p:=by
 have:=aDf (a:=-a) (by grind) hp
 grind
theorem GJ.next (h:GJ n k A)(hk:k<n):GJ n (k+1) (gj k A):=by
 have hp:=h.piv hk (by omega)
 have h0:A k k≠0:=by grind
 have rk:=h.rsum k (aTU _) hk
 rw[h.sum_k hk]at rk
 have sumr:∀ i,i≠k->su (gj k A i) (k+1) (n-(k+1))=su (A i) (k+1) (n-(k+1))-(A i k / A k k)*su (A k) (k+1) (n-(k+1)):=fun i hi=>by
  rw[sK (g:=fun j=>A i j+(-(A i k / A k k))*A k j) (fun j _ _=>by rw[aAc hi];grind),aIK,aF1]
  grind
 have sumk:su (gj k A k) (k+1) (n-(k+1))=su (A k) (k+1) (n-(k+1)) / A k k:=by
  rw[sK (g:=fun j=>(1 / A k k)*A k j) (fun j _ _=>by rw[aG1];grind),aF1]
  grind
 refine⟨fun i j hi hj=>?_,fun i j h1 h2 h3 h4=>?_,fun i j h1 h2 h3 h4 h5=>?_,fun i h1 h2=>?_,fun i h1 h2=>?_,fun i j h1 h2 h3=>?_,fun i h1=>?_,fun x hx=>?_⟩
 · by_cases c:j=k
   · subst c
     by_cases ci:i=j
     · subst ci;rw[aG1,aTK rfl];grind
     · rw[aAc ci,aTJ ci];grind
   · have hj':j<k:=by omega
     have ekj:=h.unit k j hk hj'
     rw[aTJ (by omega)]at ekj
     by_cases ci:i=k
     · rw[ci,aG1,ekj,aTJ (by omega)];grind
     · rw[aAc ci,ekj,h.unit i j hi hj'];grind
 · rw[aAc (by omega),aAc (by omega),h.sym i j (by omega) h2 (by omega) h4,h.sym k j (aTU _) hk (by omega) h4,h.sym i k (by omega) h2 (aTU _) hk]
   grind
 · rw[aAc (by omega)]
   have a1:=h.off i j (by omega) h2 (by omega) h4 h5
   have a2:=aDf (h.off k j (aTU _) hk (by omega) h4 (by omega)) hp
   have a3:=aLh a2 (h.off i k (by omega) h2 (aTU _) hk (by omega))
   grind
 · rw[aAc (by omega)]
   have a2:=aDf (h.off k i (aTU _) hk (by omega) h2 (by omega)) hp
   have a3:=aLh a2 (h.off i k (by omega) h2 (aTU _) hk (by omega))
   have:=h.diag i (by omega) h2
   grind
 · rw[sumr i (by omega)]
   have ri:=h.rsum i (by omega) h2
   rw[h.sum_k hk]at ri
   have a2:=aDf (h.off i k (by omega) h2 (aTU _) hk (by omega)) hp
   have a3:=aUt (a:=-(A i k / A k k)) (b:=A k k+su (A k) (k+1) (n-(k+1))) (by grind) rk
   have a4:(A i k / A k k)*A k k=A i k:=by grind
   grind
 · by_cases ci:i=k
   · rw[ci,aG1]
     exact aDf (h.off k j (aTU _) hk (by omega) h3 (by omega)) hp
   · rw[aAc ci]
     have a1:=h.top i j (by omega) (by omega) h3
     have a2:=aDf (h.off k j (aTU _) hk (by omega) h3 (by omega)) hp
     have a3:=aLh a2 (h.top i k (by omega) (aTU _) hk)
     grind
 · by_cases ci:i=k
   · rw[ci,sumk]
     have:=aRZ rk hp
     have e:(A k k+su (A k) (k+1) (n-(k+1))) / A k k=1+su (A k) (k+1) (n-(k+1)) / A k k:=by grind
     grind
   · rw[sumr i ci]
     have ti:=h.tsum i (by omega)
     rw[h.sum_k hk]at ti
     have a2:=aDf (h.top i k (by omega) (aTU _) hk) hp
     have a3:=aUt (a:=-(A i k / A k k)) (b:=A k k+su (A k) (k+1) (n-(k+1))) (by grind) rk
     have a4:(A i k / A k k)*A k k=A i k:=by grind
     grind
 · exact h.ker x ((aSe hk A x h0).1 hx)
end
/- A conditional applied: the program. -/
theorem xB {p q:Q}(hp:bH p)(hq:bH q)(h:bH (p+q)):bL (ofQ p) (ofQ q)=some (ofQ (p+q)):=by
 have e:=(aBC (hU hp) (hU hq)).2.1
 rw[aHo hp hq h]at e;exact e
theorem xA {p q:Q}(hp:bH p)(hq:bH q)(h:bH (p*q)):bK (ofQ p) (ofQ q)=some (ofQ (p*q)):=by
 have e:=(aES (hU hp) (hU hq)).2.1
 rw[aFB hp hq h]at e;exact e
theorem aOH {p:Q}(hp:bH p):gB (ofQ p)=some true:=by
 have:=mL (hU hp)
 rw[aAL _ (by omega),aTN (uK hp)]
theorem aG0 {p:Q}(hp:bH p):cQ (ofQ p)=some true:=by
 rw[iQ (hU hp),aTN (uK hp)]
theorem aHl {p q:Q}(hp:bH p)(hq:bH q)(h:bH (p+q)):rK (ofQ p) (ofQ q)=some (ofQ (p+q)):=by
 unfold rK
 rw[aOH hp,aOH hq]
 simp only[aTI,aT3,aUL,aTP,aT9]
 rw[xB hp hq h]
 rfl
theorem aIz:kU=some ⟨ofQ 0,ofQ 0⟩:=by
 unfold kU
 rw[dJ 0 (by omega)]
 simp only[aTI,aAe]
def ptQ (fx fy:Int->Q)(u:Int):Point:=⟨ofQ (fx u),ofQ (fy u)⟩
theorem aHI {T B:Nat}{q:Q}(hT:0<T)(h:Dv T q)(hb:bd B q)(hB:B<=10000)(t:T<=PP ^ 6):bH q:=dP (B:=10000) hT h (xT hb hB) (by omega) (by omega) t
theorem aNV (f:Int->Q)(gl:QL->Q)(a b:List QL):qH f gl (a++b)=qH f gl a+qH f gl b:=mV _ _ _
theorem aMl {g:PQ->Q}{gl:QL->Q}(hg:Co g gl){f:Int->Q}{T M D X:Nat}{v:Int}{a:List QL}(hf:aCN T M f)(hT:T<=PP ^ 2)(hM:M<=5000)(h:Arms D X v a){a1:List QL}{y:QL}{a2:List QL}(e:a=a1++y::a2) :
 bH (f y.a)/\bH (gl y)/\bH (f y.a+gl y)/\bH (y.w / sm wt a)/\bH (y.w / sm wt a*(f y.a+gl y))/\bH (qH f gl a1 / sm wt a)/\bH (qH f gl a1 / sm wt a+y.w / sm wt a*(f y.a+gl y))/\qH f gl a1 / sm wt a+y.w / sm wt a*(f y.a+gl y)=qH f gl (a1++[y]) / sm wt a:=by
 have hy:y∈a:=by rw[e];simp
 have ly:=h.lk y hy
 obtain⟨g1,g2,g3⟩:=hg.lk h.hD ly
 obtain⟨f1,f2⟩:=hf.2 y.a
 obtain⟨s1,s2,s3⟩:=aBM h hy
 obtain⟨n1,n2⟩:=h.nN
 have hP:=h.hP
 have hX:=h.hX
 have nP:nm D (sm wt a)<=PP ^ 1:=by rw[aU7];omega
 have yP:nm D y.w<=PP ^ 1:=by have:=aDP (W:=72) h.hD ly.sc.1 ly.sc.2.1 (h.le hy);rw[aU7];omega
 have yN:=(zV h.hD ly.sc.1 ly.sc.2.1).2
 have e1:y.w / sm wt a*(f y.a+gl y)=qH f gl [y] / sm wt a:=by
  unfold qH
  simp only[sm]
  grind
 obtain⟨q1,q2⟩:=aMk hg hf h (a1:=[y]) (by simpa using ly) (by have:=xL h.lk hy;simp only[sm];unfold wt at *;grind)
 obtain⟨r1,r2⟩:=aDK hg hf h (a1:=a1) (a2:=y::a2) e
 obtain⟨t1,t2⟩:=aDK hg hf h (a1:=a1++[y]) (a2:=a2) (by rw[e];simp)
 have e2:qH f gl a1 / sm wt a+y.w / sm wt a*(f y.a+gl y)=qH f gl (a1++[y]) / sm wt a:=by
  rw[e1,aNV]
  have:=h.pos
  grind
 have NT:=iK (uI nP hT) (b:=6) (by omega)
 have NT0:=aUq n1 hf.1
 refine⟨aHI hf.1 f1 f2 (by omega) (iK hT (by omega)),aHI yN g3 g1 (by omega) (iK yP (by omega)),
  aHI (aUq hf.1 yN) (lF (pL _ f1) (by rw[aUm];exact pL _ g3)) (aDp f2 g1) (by omega) (iK (uI hT yP) (by omega)),
  aH8 n1 (by omega) (by grind) s3 s1,?_,aHI NT0 r1 r2 (by omega) NT,?_,e2⟩
 · rw[e1];exact aHI NT0 q1 q2 (by omega) NT
 · rw[e2];exact aHI NT0 t1 t2 (by omega) NT
theorem aQ7 {c:CQ}{v:Int}{D X M T1 T2:Nat}{a:List QL}{fx fy:Int->Q}(hc:c=pK v a)(ha:Arms D X v a)(hx:aCN T1 M fx)(hy:aCN T2 M fy)(h1:T1<=PP ^ 2)(h2:T2<=PP ^ 2)(hM:M<=5000)
 (hv:bZ c.toC=some true) (at_:List Point) (hat:∀ y∈a,at_[y.a.toNat]?=some (ptQ fx fy y.a)):iD c.toC at_=some (⟨ofQ (app fx (·.x) c.ps),ofQ (app fy (·.y) c.ps)⟩,true):=by
 have hpl:c.toC.fParents.length=a.length:=by rw[hc];unfold CQ.toC pK;simp
 have al:a.length<=10:=aGZ ha.inc fun x hx=>(ha.nd x hx).1
 have main:∀ m k:Nat,m+k=a.length->lp (dV c.toC at_) ((k:Int),⟨ofQ (qH fx (·.x) (a.take k) / sm wt a),ofQ (qH fy (·.y) (a.take k) / sm wt a)⟩)=some (.inl ⟨ofQ (qH fx (·.x) a / sm wt a),ofQ (qH fy (·.y) a / sm wt a)⟩):=by
  intro m
  induction m with
  | zero =>
   intro k hk
   have:k=a.length:=by omega
   subst this
   rw[aUY]
   exact aJ (by unfold dV;simp only[];rw[aTJ (by omega)])
  | succ m ih =>
   intro k hk
   have hlt:k<a.length:=by omega
   have ey:a=a.take k++a[k]::a.drop (k+1):=by rw[<- aTQ hlt,aUx]
   have et:a.take (k+1)=a.take k++[a[k]]:=by rw[aVH,aTS hlt];rfl
   obtain⟨x1,x2,x3,x4,x5,x6,x7,x8⟩:=aMl cox hx h1 hM ha ey
   obtain⟨y1,y2,y3,y4,y5,y6,y7,y8⟩:=aMl coy hy h2 hM ha ey
   have hg:=hat _ (aT2 hlt)
   obtain⟨hl2,hg2⟩:=aUc.1 hg
   have n0:=(ha.nd _ (aT2 hlt)).1.1
   have hp:c.toC.fParents[k]'(by omega)=(zH (sm wt a) a[k]).toP:=by
    subst hc
    unfold CQ.toC pK;simp
   have hi:idx at_ (a[k]).a=some (ptQ fx fy (a[k]).a):=by
    unfold idx;rw[aTK n0];exact hg
   have st:dV c.toC at_ ((k:Int),⟨ofQ (qH fx (·.x) (a.take k) / sm wt a),ofQ (qH fy (·.y) (a.take k) / sm wt a)⟩)=some (.inl (((k+1:Nat):Int),⟨ofQ (qH fx (·.x) (a.take (k+1)) / sm wt a),ofQ (qH fy (·.y) (a.take (k+1)) / sm wt a)⟩)):=by
    unfold dV
    simp only[]
    rw[aTK (by omega),aM (by omega:k<c.toC.fParents.length),hp]
    simp only[aTI]
    have pn:(zH (sm wt a) a[k]).toP.fNode=(a[k]).a:=rfl
    have ps:(zH (sm wt a) a[k]).toP.fShare=ofQ ((a[k]).w / sm wt a):=rfl
    have px:(zH (sm wt a) a[k]).toP.fDX=ofQ (a[k]).x:=rfl
    have py:(zH (sm wt a) a[k]).toP.fDY=ofQ (a[k]).y:=rfl
    rw[pn,ps,px,py,aTJ (by omega),hi]
    have qx:(ptQ fx fy (a[k]).a).fX=ofQ (fx (a[k]).a):=rfl
    have qy:(ptQ fx fy (a[k]).a).fY=ofQ (fy (a[k]).a):=rfl
    simp only[aTI]
    rw[qx,qy,aHl x1 x2 x3]
    simp only[aTI]
    rw[xA x4 x3 x5]
    simp only[aTI]
    rw[xB x6 x5 x7,x8]
    simp only[aTI]
    rw[aHl y1 y2 y3]
    simp only[aTI]
    rw[xA y4 y3 y5]
    simp only[aTI]
    rw[xB y6 y5 y7,y8]
    simp only[aTI]
    rw[wi (n:=(k:Int)+1) (by omega),et]
    rfl
   rw[aS st]
   exact ih (k+1) (by omega)
 have m0:=main a.length 0 (by omega)
 have z0:∀ (f:Int->Q) (gl:QL->Q),qH f gl (a.take 0) / sm wt a=0:=fun f gl=>by
  unfold qH;rw[aVF];simp only[sm];grind
 rw[z0,z0,show((0:Nat):Int)=0 from rfl]at m0
 have ep:c.ps=a.map (zH (sm wt a)):=by rw[hc];rfl
 rw[ep,aMN cox,aMN coy]
 obtain⟨r1,r2⟩:=aDK cox hx ha (a1:=a) (a2:=[]) (by simp)
 obtain⟨s1,s2⟩:=aDK coy hy ha (a1:=a) (a2:=[]) (by simp)
 obtain⟨n1,n2⟩:=ha.nN
 have hP:=ha.hP
 have hX:=ha.hX
 have nP:nm D (sm wt a)<=PP ^ 1:=by rw[aU7];omega
 have gx:=aHI (aUq n1 hx.1) r1 r2 (by omega) (iK (uI nP h1) (by omega))
 have gy:=aHI (aUq n1 hy.1) s1 s2 (by omega) (iK (uI nP h2) (by omega))
 unfold iD
 rw[hv]
 simp only[aTI,aT3]
 rw[aIz]
 simp only[aTI]
 rw[m0]
 simp only[aTI]
 rw[aG0 gx]
 simp only[aTI,aT3]
 rw[aG0 gy]
 simp only[aTI,aUL,aTP,aT9]
/- A tree solved: the program. -/
def oU (b:List NQ):List Conditional:=b.map fun n=>n.cond.toC
structure NetB (b:List NQ):Prop where
 dn:Dn b
 len:b.length<=5
 nb:aCk 0 b
 each:∀ n∈b,bZ n.cond.toC=some true/\(1<=n.node/\n.node<=9)/\∀ u∈psN n.cond,u=0\/∃ c∈b,c.node=u
theorem Tie.netB {l:List QL}{o:List Int}(h:Tie l o):NetB (aE l o o []):=by
 obtain⟨d,f⟩:=h.dn
 refine⟨d,?_,aBF h.base h.gr o.length o [] rfl (by simp),fun n hn=>⟨?_,?_,fun u hu=>?_⟩⟩
 · rw[xZ];have:=h.base.len;simpa using this
 · have hm:n.toN∈(mD l o).fNodes:=aU9 hn
   obtain⟨_,n2,n3⟩:=(aFV h.isTree).2 _ hm
   have ec:n.toN.fCond=n.cond.toC:=rfl
   rw[ec]at n2 n3
   obtain⟨b,v1,v2,_⟩:=aJo n.cond.toC (by omega)
   rw[n2]at v1
   rw[v2,<- Option.some.inj v1]
 · have:=h.five _ (f n hn).1
   omega
 · exact((f n hn).2.2 u hu).imp id yD
theorem aM9 (c:CQ):c.toC.fParents.map (·.fNode)=psN c:=by
 unfold CQ.toC psN
 simp only[aVr]
 rfl
theorem aOD (c:Conditional)(N:List Int)(h:∀ q∈c.fParents,q.fNode∈N)(hz:N.length<=4294967296)(hs:c.fParents.length<=4294967296):lp (pU c N) 0=some (.inl ()):=by
 have main:∀ m k:Nat,m+k=c.fParents.length->lp (pU c N) (k:Int)=some (.inl ()):=by
  intro m
  induction m with
  | zero=>intro k hk;exact aJ (by unfold pU;rw[aTJ (by omega)])
  | succ m ih =>
   intro k hk
   have hlt:k<c.fParents.length:=by omega
   rw[aS (s':=((k+1:Nat):Int))]
   · exact ih (k+1) (by omega)
   · unfold pU
     rw[aTK (by omega),aM hlt]
     simp only[aTI]
     rw[aB7 _ _ hz,aTN (h _ (aT2 hlt))]
     simp only[aTI,aT3]
     rw[wi (n:=(k:Int)+1) (by omega)];rfl
 exact main _ 0 (aUw _)
section
variable {b:List NQ}
theorem NetB.sp {b1 r:List NQ}{n:NQ}(h:NetB b)(e:b=b1++n::r):n.node∉r.map (fun c=>c.node)/\(∀ u∈psN n.cond,u=0\/∃ c∈r,c.node=u)/\n.cond.node=n.node:=by
 have hp:=h.dn.1
 have hm:n∈b:=by rw[e];simp
 rw[e,aVf,aUp]at hp
 obtain⟨p1,⟨p2,p3⟩,p4⟩:=hp
 refine⟨fun hr=>?_,fun u hu=>?_,(h.dn.2 n hm).2⟩
 · obtain⟨c,hc,ec⟩:=aT5.1 hr
   exact(p2 c hc).2 ec.symm
 · rcases(h.each n hm).2.2 u hu with h0 | ⟨c,hc,ec⟩
   · exact .inl h0
   · right
     rw[e]at hc
     rcases aTR.1 hc with hc | hc
     · exact absurd (ec▸hu) (p4 c hc n (by simp)).1
     · rcases aTM.1 hc with rfl | hc
       · exact absurd (ec▸hu) (h.dn.2 c hm).1
       · exact⟨c,hc,ec⟩
theorem NetB.isNet (h:NetB b):yX (oU b)=some true:=by
 have hlen:=h.len
 have nl:(oU b).length=b.length:=by unfold oU;rw[aTZ]
 have main:∀ (n:Nat) (b1 r:List NQ),b1.length=n->b=b1++r->lp (pT (oU b)) ((b1.length:Int)-1,0::(r.map fun c=>c.node).reverse)=some (.inl ()):=by
  intro n
  induction n with
  | zero =>
   intro b1 r hn e
   have:b1=[]:=aTW.1 hn
   subst this
   exact aJ (by unfold pT;simp only[];rw[aTJ (by simp)])
  | succ n ih =>
   intro b1 r hn e
   rcases aVD b1 with rfl | ⟨b2,x,rfl⟩
   · simp at hn
   rw[aVE]at hn e ⊢
   have e2:b=b2++x::r:=by rw[e,aT0];rfl
   obtain⟨s1,s2,s3⟩:=h.sp e2
   obtain⟨v1,v2,_⟩:=h.each x (by rw[e2];simp)
   have bl:b.length=b2.length+(r.length+1):=by rw[e2];simp
   have el:(((b2++[x]).length:Nat):Int)-1=(b2.length:Int):=by rw[aT4,aUr];omega
   have lt:b2.length<(oU b).length:=by rw[nl,e2];simp
   have hg:(oU b)[b2.length]=x.cond.toC:=by
    unfold oU
    simp only[aUZ,e2]
    simp
   have hN:(0::(r.map fun c=>c.node).reverse).length<=10:=by
    have:b.length=b2.length+(r.length+1):=by rw[e2];simp
    simp;omega
   have hfn:x.cond.toC.fNode=x.node:=s3
   have hpl:x.cond.toC.fParents.length<=100:=by
    obtain⟨D,X,a,e3,ha,_⟩:=(aCj (n:=x) (k:=0) (a:=b2) (b:=x::r) (by rw[<- e2];exact h.nb)).1
    have:=aGZ ha.inc fun x hx=>(ha.nd x hx).1
    rw[e3];unfold CQ.toC pK;simp;omega
   rw[el]
   have st:pT (oU b) ((b2.length:Int),0::(r.map fun c=>c.node).reverse)=some (.inl ((b2.length:Int)-1,0::((x::r).map fun c=>c.node).reverse)):=by
    unfold pT
    simp only[]
    rw[aTK (by omega),aM lt,hg]
    simp only[aTI]
    rw[v1]
    simp only[aTI,aT3]
    rw[hfn,aB7 _ _ (by omega),aTL (by
     intro hm
     rcases aTM.1 hm with h0 | hm
     · omega
     · exact s1 (List.mem_reverse.1 hm))]
    simp only[aTI,aTP,aT9]
    rw[aOD _ _ (fun q hq=>by
     have:q.fNode∈psN x.cond:=by rw[<- aM9];exact aU9 hq
     rcases s2 _ this with h0 | ⟨c,hc,ec⟩
     · rw[h0];simp
     · refine aUv _ (List.mem_reverse.2 ?_)
       rw[<- ec];exact aU9 hc) (by omega) (by omega)]
    simp only[aTI,aL]
    rw[aN (by omega),wi (n:=(b2.length:Int)-1) (by omega)]
    simp
   rw[aS st]
   exact ih b2 (x::r) (by simpa using hn) e2
 have:=main b.length b [] rfl (by simp)
 unfold yX
 rw[nl,wi (n:=(b.length:Int)-1) (by omega),aL]
 simp only[aUH,List.reverse_nil]at this
 rw[this]
 rfl
def mE (b:List NQ):Int:=b.foldl (fun g n=>max g n.node) 0
theorem aG4:∀ (b:List NQ) (g:Int),g<=b.foldl (fun g n=>max g n.node) g/\(∀ n∈b,n.node<=b.foldl (fun g n=>max g n.node) g)/\(b.foldl (fun g n=>max g n.node) g=g\/∃ n∈b,n.node=b.foldl (fun g n=>max g n.node) g)
 | [],g=>by simp
 | n::b,g=>by
  obtain⟨h1,h2,h3⟩:=aG4 b (max g n.node)
  rw[aVe]
  refine⟨by omega,fun m hm=>?_,?_⟩
  · rcases aTM.1 hm with rfl | hm
    · omega
    · exact h2 m hm
  · rcases h3 with h3 | ⟨m,hm,e⟩
    · by_cases c:n.node<=g
      · left;omega
      · right;exact⟨n,by simp,by omega⟩
    · exact .inr ⟨m,by simp[hm],e⟩
theorem NetB.top (h:NetB b):lp (kL (oU b)) (0,0)=some (mE b)/\0<=mE b/\mE b<=9/\∀ n∈b,n.node<=mE b:=by
 have hlen:=h.len
 have nl:(oU b).length=b.length:=by unfold oU;rw[aTZ]
 obtain⟨f1,f2,f3⟩:=aG4 b 0
 refine⟨?_,f1,?_,f2⟩
 · have:=(lW (step:=kL (oU b)) b (fun k g=>(g,(k:Int))) (fun g n=>max g n.node) (fun g=>g) (fun _ _=>True) (fun k g hk _=>by
    refine⟨?_,trivial⟩
    unfold kL
    simp only[]
    rw[aTK (by omega),aM (by omega:k<(oU b).length)]
    simp only[aTI]
    have hg:((oU b)[k]'(by omega)).fNode=(b[k]).node:=by
     unfold oU
     simp only[aUZ]
     exact(h.dn.2 _ (aT2 hk)).2
    rw[hg,wi (n:=(k:Int)+1) (by omega)];rfl) (fun g _=>by unfold kL;simp only[];rw[aTJ (by omega)]) 0 trivial).1
   exact this
 · rcases f3 with f3 | ⟨n,hn,e⟩
   · unfold mE;omega
   · have:=(h.each n hn).2.1
     unfold mE;omega
def zP0:Point:=Point.mk (Rat.mk (BigInt.mk false ([])) ([])) (Rat.mk (BigInt.mk false ([])) ([]))
def vY (G:Nat)(r:List NQ):List Point:=(List.range (G+1)).map fun(i:Nat)=>if(decide (i=0)||r.any fun c=>decide (c.node=(i:Int)))=true then ptQ (sol (·.x) r) (sol (·.y) r) (i:Int)else zP0
theorem yL (G:Nat)(r:List NQ):(vY G r).length=G+1:=by unfold vY;simp
theorem aDR {G:Nat}{r:List NQ}{i:Nat}(hi:i<(vY G r).length):(vY G r)[i]=if(decide (i=0)||r.any fun c=>decide (c.node=(i:Int)))=true then ptQ (sol (·.x) r) (sol (·.y) r) (i:Int)else zP0:=by
 simp only[vY,aUZ,List.getElem_range]
theorem aGE {G:Nat}{r:List NQ}{u:Int}(h0:0<=u)(hG:u<=G)(h:u=0\/∃ c∈r,c.node=u):(vY G r)[u.toNat]?=some (ptQ (sol (·.x) r) (sol (·.y) r) u):=by
 obtain⟨i,rfl⟩:=aWk h0
 rw[aUf]
 unfold vY
 rw[List.getElem?_map,List.getElem?_range (by omega)]
 simp only[aWC]
 rw[aTK]
 rw[aUy,aUQ,aWt]
 rcases h with h | ⟨c,hc,e⟩
 · left;omega
 · exact .inr ⟨c,hc,aTN e⟩
theorem aOZ {G:Nat}{r:List NQ}{n:NQ}(h1:1<=n.node)(hG:n.node<=G)(hn:n.node∉r.map (fun c=>c.node)):(vY G r).set n.node.toNat (ptQ (sol (·.x) (n::r)) (sol (·.y) (n::r)) n.node)=vY G (n::r):=by
 obtain⟨j,ej⟩:=aWk (by omega:0<=n.node)
 apply aV6
 · rw[aVy,yL,yL]
 · intro i hi1 hi2
   rw[aVy,yL]at hi1
   rw[aV5]
   by_cases c:n.node.toNat=i
   · rw[aTK c,aDR]
     have e:n.node=(i:Int):=by omega
     rw[aTK (by rw[aUy,aWt];exact .inr ⟨n,by simp,aTN e⟩),e]
   · rw[aTJ c,aDR,aDR]
     have ne:¬(i:Int)=n.node:=by omega
     have e1:ptQ (sol (·.x) (n::r)) (sol (·.y) (n::r)) (i:Int)=ptQ (sol (·.x) r) (sol (·.y) r) (i:Int):=by
      unfold ptQ
      rw[sol,aTJ ne,sol,aTJ ne]
     rw[e1]
     have e2:(decide (i=0)||(n::r).any fun c=>decide (c.node=(i:Int)))=(decide (i=0)||r.any fun c=>decide (c.node=(i:Int))):=by
      rw[List.any_cons,aTL (fun e:n.node=(i:Int)=>ne e.symm),aWl]
     rw[e2]
theorem aO0 (G:Nat):(List.replicate (G+1) zP0).set 0 ⟨ofQ 0,ofQ 0⟩=vY G []:=by
 apply aV6
 · rw[aVy,yL];simp
 · intro i hi1 hi2
   rw[aV5,aDR]
   simp only[List.getElem_replicate,List.any_nil,aWz]
   by_cases c:i=0
   · subst c;rfl
   · rw[aTJ (fun e=>c e.symm),aTJ (by simpa using c)]
theorem NetB.solve (h:NetB b):tB (oU b)=some (vY (mE b).toNat b,true):=by
 have hlen:=h.len
 have nl:(oU b).length=b.length:=by unfold oU;rw[aTZ]
 obtain⟨t1,t2,t3,t4⟩:=h.top
 have main:∀ (n:Nat) (b1 r:List NQ),b1.length=n->b=b1++r->lp (kK (oU b)) ((b1.length:Int)-1,vY (mE b).toNat r)=some (.inl (vY (mE b).toNat b)):=by
  intro n
  induction n with
  | zero =>
   intro b1 r hn e
   have:b1=[]:=aTW.1 hn
   subst this
   rw[aTO]at e
   subst e
   exact aJ (by unfold kK;simp only[];rw[aTJ (by simp)])
  | succ n ih =>
   intro b1 r hn e
   rcases aVD b1 with rfl | ⟨b2,x,rfl⟩
   · simp at hn
   rw[aVE]at hn e ⊢
   have e2:b=b2++x::r:=by rw[e,aT0];rfl
   have hxb:x∈b:=by rw[e2];simp
   obtain⟨s1,s2,s3⟩:=h.sp e2
   obtain⟨v1,v2,_⟩:=h.each x hxb
   have bl:b.length=b2.length+(r.length+1):=by rw[e2];simp
   have el:(((b2++[x]).length:Nat):Int)-1=(b2.length:Int):=by rw[aT4,aUr];omega
   have lt:b2.length<(oU b).length:=by omega
   have hg:(oU b)[b2.length]=x.cond.toC:=by
    unfold oU
    simp only[aUZ,e2]
    simp
   have hfn:x.cond.toC.fNode=x.node:=s3
   have nb2:=aCj (n:=x) (k:=0) (a:=b2) (b:=x::r) (by rw[<- e2];exact h.nb)
   rw[aUg]at nb2
   obtain⟨⟨D,X,a,e3,ha,_⟩,nbr⟩:=nb2
   obtain⟨T1,b1',sx,sy⟩:=aDz r (b2.length+1) nbr
   have ep:=aLz (k:=b2.length+1) (n:=r.length) (by omega)
   have ap:=aQ7 e3 ha sx sy (by omega) (by omega) (by omega) v1 (vY (mE b).toNat r) (fun y hy=>by
    have hu:y.a∈psN x.cond:=by rw[e3,aBQ];exact aU9 hy
    have h0:=(ha.nd y hy).1.1
    refine aGE h0 ?_ (s2 _ hu)
    rcases s2 _ hu with g | ⟨c,hc,ec⟩
    · omega
    · have:=t4 c (by rw[e2];simp[hc])
      omega)
   have eset:ptQ (sol (·.x) (x::r)) (sol (·.y) (x::r)) x.node=⟨ofQ (app (sol (·.x) r) (·.x) x.cond.ps),ofQ (app (sol (·.y) r) (·.y) x.cond.ps)⟩:=by
    unfold ptQ
    rw[sol,aTK rfl,sol,aTK rfl]
   have tx:=t4 x hxb
   have hset:=aOZ (G:=(mE b).toNat) (r:=r) (n:=x) v2.1 (by omega) s1
   have xin:x.node.toNat<(vY (mE b).toNat r).length:=by rw[yL];omega
   obtain⟨j,ej⟩:=aWk (by omega:0<=x.node)
   rw[el]
   have st:kK (oU b) ((b2.length:Int),vY (mE b).toNat r)=some (.inl ((b2.length:Int)-1,vY (mE b).toNat (x::r))):=by
    unfold kK
    simp only[]
    rw[aTK (by omega),aM lt,hg]
    simp only[aTI]
    rw[ap]
    simp only[aTI,aT3]
    rw[hfn,ej,aM (by rw[ej,aUf]at xin;exact xin)]
    simp only[aTI,aL]
    rw[jO,wi (n:=(b2.length:Int)-1) (by omega)]
    rw[<- hset,eset,ej,aUf]
   rw[aS st]
   exact ih b2 (x::r) (by simpa using hn) e2
 have m0:=main b.length b [] rfl (by simp)
 have w1:IntKind.i64.wrap (mE b+1)=((mE b).toNat+1:Nat):=by rw[wi (by omega)];omega
 unfold tB
 rw[h.isNet]
 simp only[aTI,aT3]
 rw[t1]
 simp only[aTI,aL]
 rw[w1,aUf,aN (by omega)]
 simp only[aTI]
 rw[aIz]
 simp only[aTI]
 have i0:∀ (n:Nat) (z:Point),idx (List.replicate (n+1) z) 0=some z:=fun n z=>by unfold idx;simp
 have s0:∀ (l:List Point) (z:Point),nS l 0 z=l.set 0 z:=fun l z=>rfl
 rw[i0]
 simp only[aTI]
 rw[s0]
 have en:=aO0 (mE b).toNat
 unfold zP0 at en
 rw[en,nl,wi (n:=(b.length:Int)-1) (by omega),m0]
 rfl
end
theorem aS5 {t:Tree}(hz:mP t<=4294967296)(hc:∀ n∈t.fNodes,aV n.fCond<=4294967296)(hl:t.fNodes.length<=1000):uT t=some (t.fNodes.map (·.fCond)):=by
 have:=(lW (step:=pE t) t.fNodes (fun k u=>((k:Int),u)) (fun u n=>u++[n.fCond]) (fun u=>u) (fun k u=>u.length<=k) (fun k u hk hi=>by
  constructor
  · unfold pE
    simp only[]
    rw[aTK (by omega),aM hk]
    simp only[aTI]
    rw[uQ _ (hc _ (aT2 hk))]
    simp only[aTI,aL]
    rw[aN (by omega),wi (n:=(k:Int)+1) (by omega)];rfl
  · rw[aT4,aUr];omega) (fun u _=>by unfold pE;simp only[];rw[aTJ (by omega)]) [] (aUB _)).1
 have e:∀ (a:List TreeNode) (u:List Conditional),a.foldl (fun u n=>u++[n.fCond]) u=u++a.map (·.fCond):=by
  intro a
  induction a with
  | nil=>simp
  | cons x a ih=>intro u;rw[aVe,ih];simp
 rw[show((0:Nat):Int)=0 from rfl,e,aTO]at this
 unfold uT
 rw[this];rfl
theorem aQn {l:List QL}{o:List Int}(h:Tie l o):rJ (mD l o)=some (vY (mE (aE l o o [])).toNat (aE l o o []),true):=by
 have hz:=h.tsz
 obtain⟨h9,hn⟩:=aFV h.isTree
 unfold rJ
 rw[aS5 (by omega) (fun n hn'=>by have:=(hn n hn').2.2;omega) (by omega)]
 simp only[aTI]
 have e:(mD l o).fNodes.map (·.fCond)=oU (aE l o o []):=by
  unfold mD oU
  simp only[aVr]
  rfl
 rw[e,h.netB.solve]
 rfl
/- The energy of a tree: the program. -/
theorem aS4:∀ {k m:Nat},k+m<=5->epr 0 k*epr 0 k*ex' k ^ (tri (m+1)+1)<=PP ^ 6:=by
 have:∀ k,k<=5->∀ m,m<=5-k->epr 0 k*epr 0 k*ex' k ^ (tri (m+1)+1)<=PP ^ 6:=by unfold PP ex' ex;decide
 intro k m h
 exact this k (by omega) m (by omega)
theorem aRD {x:QL}{p q:Int->Q}{T:Nat}(hx:LkI x)(hp:∀ u,Dv T (p u))(hq:∀ u,Dv T (q u)):Dv (T*T) (eP p q x):=by
 obtain⟨_,w,a,b,_,_,_,e1,e2,e3⟩:=hx
 have up:∀ z:Int,Dv T (z:Q):=fun z=>by have:=pL T (aDr z);rwa [Nat.one_mul]at this
 have d1:Dv T (p x.b-p x.a-x.x):=oN (oN (hp _) (hp _)) (by rw[e2];exact up _)
 have d2:Dv T (q x.b-q x.a-x.y):=oN (oN (hq _) (hq _)) (by rw[e3];exact up _)
 have:=sH (aDr w) (lF (sH d1 d1) (sH d2 d2))
 rw[Nat.one_mul]at this
 unfold eP sqQ
 rw[e1];exact this
theorem aRE (x:QL):eP (fun _=>0) (fun _=>0) x=enQ x:=by
 unfold eP enQ sqQ
 grind
section
variable {l:List QL}{o pre rem:List Int}
theorem aQO (h:Tie l o)(e:o=pre++rem):Dv (dW (fun c:NQ=>c.den*pn c.den c.msgs) ((aE l o pre []).filter (iZ rem))) (sm enQ (dS ((aE l o pre []).filter (iZ rem))))/\
 0<dW (fun c:NQ=>c.den*pn c.den c.msgs) ((aE l o pre []).filter (iZ rem))/\dW (fun c:NQ=>c.den*pn c.den c.msgs) ((aE l o pre []).filter (iZ rem))<=ex' pre.length ^ (tri (rem.length+1)+1)/\
 0<=sm enQ (dS ((aE l o pre []).filter (iZ rem)))/\sm enQ (dS ((aE l o pre []).filter (iZ rem)))<=((10 ^ 9:Nat):Q)/\
 (∀ x∈dS ((aE l o pre []).filter (iZ rem)),(x.a=0\/x.a∈rem)/\(x.b=0\/x.b∈rem)):=by
 have ti:=TInv.at h.base h.gr pre.length pre rem rfl e
 have hbl:(aE l o pre []).length=pre.length:=by rw[xZ];simp
 have ol:=h.base.len
 have lens:pre.length+rem.length<=5:=by rw[e]at ol;simpa using ol
 have nd:=h.nd
 have five:=h.five
 have nV:(0::rem).Nodup:=by
  rw[aUM]
  refine⟨fun h0=>?_,?_⟩
  · have:=(five 0 (by rw[e];simp[h0])).1;omega
  · rw[e]at nd;exact(aT6.1 nd).2.1
 have lv:∀ c∈(aE l o pre []).filter (iZ rem),c∈aE l o pre []/\c.up∈rem:=fun c hc=>by
  rw[aUb]at hc
  exact⟨hc.1,aUi hc.2⟩
 have mem:∀ x∈dS ((aE l o pre []).filter (iZ rem)),∃ c∈(aE l o pre []).filter (iZ rem),x∈c.msgs:=fun x hx=>aVh.1 hx
 have wnn:∀ x∈dS ((aE l o pre []).filter (iZ rem)),0<x.w:=fun x hx=>by
  obtain⟨c,hc,hm⟩:=mem x hx
  exact((ti.msg c (lv c hc).1 (lv c hc).2).1 x hm).sc.1
 have w72:sm wt (dS ((aE l o pre []).filter (iZ rem)))<=72:=by
  have:=ti.wtt
  have n2:0<=sm wt (l.filter fun x=>decide (aT o [x.a,x.b]∈rem)):=jF fun y hy=>(h.base.lk y (aUb.1 hy).1).1
  grind
 have w1:∀ x∈dS ((aE l o pre []).filter (iZ rem)),x.w<=72:=fun x hx=>by
  have:=aIN (f:=wt) (fun y hy=>by have:=wnn y hy;unfold wt;grind) x hx
  unfold wt at *;grind
 have each:∀ c∈(aE l o pre []).filter (iZ rem),0<c.den*pn c.den c.msgs/\c.den*pn c.den c.msgs<=(72*c.den) ^ (tri (rem.length+1)+1):=fun c hc=>by
  obtain⟨m1,m2⟩:=ti.msg c (lv c hc).1 (lv c hc).2
  obtain⟨p1,p2,p3,p4⟩:=ti.ps c (lv c hc).1 (lv c hc).2
  have hd:=ti.den c (lv c hc).1 (lv c hc).2
  have l1:=aDC nV m2 (fun x hx=>⟨p1 _ (p3 x hx).1,p1 _ (p3 x hx).2.1,(p3 x hx).2.2⟩)
  have eV:(0::rem).length=rem.length+1:=rfl
  rw[eV]at l1
  have l2:=aDa (K:=rem.length+1) (by omega)
  have l3:=aGs (W:=72) hd (fun x hx=>(m1 x hx).sc) (fun x hx=>w1 x (aVh.2 ⟨c,hc,hx⟩))
  refine⟨aUq hd (aDd hd fun x hx=>(m1 x hx).sc),?_⟩
  rw[aU0,aUm ((72*c.den) ^ _)]
  exact aUd (by omega) (aTY l3 (aUu (by omega) (by omega)))
 refine⟨?_,yA fun c hc=>(each c hc).1,?_,?_,?_,?_⟩
 · refine aHu fun x hx=>?_
   obtain⟨c,hc,hm⟩:=mem x hx
   obtain⟨m1,m2⟩:=ti.msg c (lv c hc).1 (lv c hc).2
   have hd:=ti.den c (lv c hc).1 (lv c hc).2
   exact xP (aKJ hd (m1 x hm).sc) (aWc (aVu _ (aGr _ x hm)) (aCr (f:=fun c:NQ=>c.den*pn c.den c.msgs) hc))
 · refine aTY (aGq (g:=fun c:NQ=>(72*c.den) ^ (tri (rem.length+1)+1)) fun c hc=>(each c hc).2) ?_
   rw[aEz]
   have:=ti.prod
   rw[hbl]at this
   exact aU8 this _
 · exact iE fun x hx=>aCz (wnn x hx)
 · have le:sm enQ (dS ((aE l o pre []).filter (iZ rem)))<=sm (fun x=>((2*(320*320):Nat):Q)*wt x) (dS ((aE l o pre []).filter (iZ rem))):=aL6 fun x hx=>by
    obtain⟨c,hc,hm⟩:=mem x hx
    have m1:=(ti.msg c (lv c hc).1 (lv c hc).2).1 x hm
    have hX:20*2 ^ (aE l o pre []).length<=640:=by
     rw[hbl]
     calc 20*2 ^ pre.length<=20*2 ^ 5:=aT7 _ (aUu (by omega) (by omega))
      _=640:=rfl
    have rl:1<=rem.length:=by
     have:=(lv c hc).2
     exact List.length_pos_of_mem this
    have hX:20*2 ^ (aE l o pre []).length<=320:=by
     rw[hbl]
     calc 20*2 ^ pre.length<=20*2 ^ 4:=aT7 _ (aUu (by omega) (by omega))
      _=320:=rfl
    exact aRB (aKN m1 (Nat.dvd_refl _) hX)
   rw[aAZ]at le
   have k1:((2*(320*320):Nat):Q)*sm wt (dS ((aE l o pre []).filter (iZ rem)))<=((2*(320*320):Nat):Q)*72:=_root_.Rat.mul_le_mul_of_nonneg_left w72 (xN _)
   have k2:((2*(320*320):Nat):Q)*72=((2*(320*320)*72:Nat):Q):=(aUO _ _).symm
   have k3:((2*(320*320)*72:Nat):Q)<=((10 ^ 9:Nat):Q):=aBS (by decide)
   grind
 · intro x hx
   obtain⟨c,hc,hm⟩:=mem x hx
   obtain⟨p1,p2,p3,p4⟩:=ti.ps c (lv c hc).1 (lv c hc).2
   exact⟨aTM.1 (p1 _ (p3 x hm).1),aTM.1 (p1 _ (p3 x hm).2.1)⟩
theorem aF0 (h:Tie l o)(e:o=pre++rem):bH (sn (fun n=>n.enQ) (aE l o pre [])):=by
 obtain⟨L1,L2,L3,L4,L5,L6⟩:=aQO h e
 have ol:=h.base.len
 have lens:pre.length+rem.length<=5:=by rw[e]at ol;simpa using ol
 have hbl:(aE l o pre []).length=pre.length:=by rw[xZ];simp
 obtain⟨d,f⟩:=aIE h pre.length pre rem rfl e
 obtain⟨T,t1,t2,t3⟩:=aDz (aE l o pre []) 0 (aBF h.base h.gr pre.length pre rem rfl e)
 rw[hbl]at t1
 have E:=aFE (sol (·.x) (aE l o pre [])) (sol (·.y) (aE l o pre [])) h.base h.gr pre.length pre rem rfl e
 have E0:=aFE (fun _=>0) (fun _=>0) h.base h.gr pre.length pre rem rfl e
 rw[aK1]at E E0
 rw[aIM (f:=fun n=>cdE (sol (·.x) (aE l o pre [])) (sol (·.y) (aE l o pre [])) n.cond) fun n hn=>by
  have e1:=aF4 (·.x) d n hn
  have e2:=aF4 (·.y) d n hn
  unfold cdE
  rw[(d.2 n hn).2,e1,e2]
  unfold sqQ
  grind]at E
 have nd:=h.nd
 rw[e]at nd
 have out:∀ (g:PQ->Q) (u:Int),(u=0\/u∈rem)->sol g (aE l o pre []) u=0:=fun g u hu=>aFF g _ u fun n hn en=>by
  have hp:=(f n hn).1
  rcases hu with rfl | hu
  · have:=(h.five n.node (by rw[e];simp[hp])).1;omega
  · exact(aT6.1 nd).2.2 _ hp _ hu en
 have congrL:∀ (b:List QL) (p q:Int->Q),(∀ x∈b,eP p q x=enQ x)->sm (eP p q) b=sm enQ b:=by
  intro b p q hb
  induction b with
  | nil=>rfl
  | cons x b ih=>rw[sm,sm,hb x (by simp),ih fun y hy=>hb y (by simp[hy])]
 have eL:sm (eP (sol (·.x) (aE l o pre [])) (sol (·.y) (aE l o pre []))) (dS ((aE l o pre []).filter (iZ rem)))=sm enQ (dS ((aE l o pre []).filter (iZ rem))):=congrL _ _ _ fun x hx=>by
  obtain⟨a1,a2⟩:=L6 x hx
  unfold eP enQ sqQ
  rw[out _ _ a1,out _ _ a1,out _ _ a2,out _ _ a2]
  grind
 have e0L:=congrL (dS ((aE l o pre []).filter (iZ rem))) (fun _=>0) (fun _=>0) fun x _=>aRE x
 have e0F:=congrL (l.filter fun x=>decide (aT o [x.a,x.b]∈pre)) (fun _=>0) (fun _=>0) fun x _=>aRE x
 rw[eL]at E
 rw[e0L,e0F]at E0
 have lkF:∀ x∈l.filter (fun x=>decide (aT o [x.a,x.b]∈pre)),Lk 1 20 x:=fun x hx=>(h.base.lk x (aUb.1 hx).1).1
 have wF:sm wt (l.filter fun x=>decide (aT o [x.a,x.b]∈pre))<=72:=by
  have s:=aBK wt (fun x=>decide (aT o [x.a,x.b]∈pre)) l
  have n2:0<=sm wt (l.filter fun x=>!decide (aT o [x.a,x.b]∈pre)):=jF fun y hy=>(h.base.lk y (aUb.1 hy).1).1
  have:=h.base.hw
  grind
 obtain⟨s1,s2⟩:=uX lkF (by omega) wF
 have cd0:=aCo (f:=fun n=>cdE (fun _=>0) (fun _=>0) n.cond) (l:=aE l o pre []) fun n hn=>aLI _ _ (f n hn).2.1
 have nnF:0<=sm (eP (sol (·.x) (aE l o pre [])) (sol (·.y) (aE l o pre []))) (l.filter fun x=>decide (aT o [x.a,x.b]∈pre)):=iE fun x hx=>aRC _ _ (lkF x hx).sc.1
 have dF:Dv (T*T) (sm (eP (sol (·.x) (aE l o pre [])) (sol (·.y) (aE l o pre []))) (l.filter fun x=>decide (aT o [x.a,x.b]∈pre))):=aHu fun x hx=>aRD (h.lk x (aUb.1 hx).1) (fun u=>(t2.2 u).1) (fun u=>(t3.2 u).1)
 have eP':sn (fun n=>n.enQ) (aE l o pre [])=sm (eP (sol (·.x) (aE l o pre [])) (sol (·.y) (aE l o pre []))) (l.filter fun x=>decide (aT o [x.a,x.b]∈pre))-sm enQ (dS ((aE l o pre []).filter (iZ rem))):=by grind
 have k8:((10 ^ 8:Nat):Q)<=((10 ^ 10:Nat):Q):=aBS (by decide)
 have k9:((10 ^ 9:Nat):Q)<=((10 ^ 10:Nat):Q):=aBS (by decide)
 have dd:Dv (T*T*dW (fun c:NQ=>c.den*pn c.den c.msgs) ((aE l o pre []).filter (iZ rem))) (sn (fun n=>n.enQ) (aE l o pre [])):=by
  rw[eP']
  exact oN (pL _ dF) (by rw[aUm];exact pL _ L1)
 refine dP (B:=10 ^ 10) (aUq (aUq t2.1 t2.1) L2) dd ⟨?_,?_⟩ (by decide) (by decide) ?_
 · rw[eP'];grind
 · grind
 · exact aTY (aUd (aUd t1 t1) L3) (aS4 lens)
end
theorem aOM {l:List QL}{o p:List Int}{v:Int}{r:List Int}(h:Tie l o)(e:o=p++v::r):bH (nxt l o v (aE l o p [])).enQ:=((TInv.at h.base h.gr p.length p (v::r) rfl e).next h.base).2.2
theorem aPt {l:List QL}{o:List Int}(h:Tie l o):pF (mD l o)=some (ofQ (sn (fun n=>n.enQ) (aE l o o []))):=by
 have nl:=aNh l o
 have ol:=h.base.len
 have main:∀ (rem pre:List Int),o=pre++rem->lp (iH (mD l o)) ((pre.length:Int),ofQ (sn (fun n=>n.enQ) (aE l o pre [])))=some (ofQ (sn (fun n=>n.enQ) (aE l o o []))):=by
  intro rem
  induction rem with
  | nil =>
   intro pre e
   rw[aUJ]at e
   have e':aE l o pre []=aE l o o []:=congrArg (fun z=>aE l o z []) e.symm
   rw[e']
   have:pre.length=o.length:=by rw[e]
   exact aJ (by unfold iH;simp only[];rw[aTJ (by omega)])
  | cons v r ih =>
   intro pre e
   have hg:=aOO (l:=l) e
   obtain⟨hk,hgk⟩:=aUc.1 hg
   have e2:o=(pre++[v])++r:=by rw[e,aT0];rfl
   have f1:=aF0 h e
   have f2:=aOM h e
   have f3:=aF0 h e2
   have es:sn (fun n=>n.enQ) (aE l o (pre++[v]) [])=sn (fun n=>n.enQ) (aE l o pre [])+(nxt l o v (aE l o pre [])).enQ:=by
    rw[vL,aK0];simp only[sn];grind
   rw[es]at f3
   have pl:pre.length<=5:=by omega
   have st:iH (mD l o) ((pre.length:Int),ofQ (sn (fun n=>n.enQ) (aE l o pre [])))=some (.inl (((pre++[v]).length:Int),ofQ (sn (fun n=>n.enQ) (aE l o (pre++[v]) [])))):=by
    unfold iH
    simp only[]
    rw[aTK (by omega),aM hk,hgk]
    simp only[aTI]
    have ee:(nxt l o v (aE l o pre [])).toN.fEnergy=ofQ (nxt l o v (aE l o pre [])).enQ:=rfl
    rw[ee,aHl f1 f2 f3]
    simp only[aTI]
    rw[wi (n:=(pre.length:Int)+1) (by omega),es]
    simp
   rw[aS st]
   exact ih (pre++[v]) e2
 have m0:=main o [] rfl
 unfold pF
 rw[dJ 0 (by omega),aAe]
 simp only[aTI]
 have:sn (fun n=>n.enQ) (aE l o [] [])=0:=rfl
 rw[this]at m0
 simp only[aUV]at m0
 rw[show((0:Nat):Int)=0 from rfl]at m0
 rw[m0]
 rfl
/- Covariances of a tree over the rational numbers. -/
def lin (f:Int->Q):List PQ->Q
 | []=>0
 | x::r=>x.s*f x.node+lin f r
theorem aFO (f:Int->Q)(g:PQ->Q):∀ ps:List PQ,app f g ps=lin f ps+app (fun _=>0) g ps
 | []=>by simp only[app,lin];grind
 | x::r=>by rw[app,lin,app,aFO f g r];grind
theorem aMC (f:Int->Q):∀ ps:List PQ,lin (fun u=>- f u) ps=- lin f ps
 | []=>by simp only[lin];grind
 | x::r=>by rw[lin,lin,aMC f r];grind
def rs (p:Int->Q)(n:NQ):Q:=p n.node-lin p n.cond.ps
def bil (b:List NQ)(p f:Int->Q):Q:=sn (fun n=>n.cond.t*(rs p n*rs f n)) b
def e0 (p:Int->Q)(x:QL):Q:=x.w*((p x.b-p x.a)*(p x.b-p x.a))
theorem aRn (p:Int->Q):∀ l:List QL,sm (eP p (fun _=>0)) l+sm (eP (fun u=>- p u) (fun _=>0)) l=2*sm (eP (fun _=>0) (fun _=>0)) l+2*sm (e0 p) l
 | []=>by simp only[sm];grind
 | x::l=>by
  have ih:=aRn p l
  rw[sm,sm,sm,sm]
  have e:eP p (fun _=>0) x+eP (fun u=>- p u) (fun _=>0) x=2*eP (fun _=>0) (fun _=>0) x+2*e0 p x:=by
   unfold eP e0 sqQ
   simp only[]
   generalize p x.b=u
   generalize p x.a=v
   grind
  grind
theorem aRm (p:Int->Q):∀ b:List NQ,(∀ n∈b,n.cond.node=n.node)->sn (fun n=>cdE p (fun _=>0) n.cond) b+sn (fun n=>cdE (fun u=>- p u) (fun _=>0) n.cond) b=2*sn (fun n=>cdE (fun _=>0) (fun _=>0) n.cond) b+2*bil b p p
 | [],_=>by simp only[sn,bil];grind
 | n::b,h=>by
  have ih:=aRm p b fun m hm=>h m (by simp[hm])
  have hn:=h n (by simp)
  unfold bil at ih ⊢
  rw[sn,sn,sn,sn]
  have e:cdE p (fun _=>0) n.cond+cdE (fun u=>- p u) (fun _=>0) n.cond=2*cdE (fun _=>0) (fun _=>0) n.cond+2*(n.cond.t*(rs p n*rs p n)):=by
   unfold cdE rs sqQ
   rw[hn,aFO p,aFO (fun u=>- p u),aMC]
   simp only[]
   generalize app (fun _=>0) (fun x=>x.x) n.cond.ps=A
   generalize app (fun _=>0) (fun x=>x.y) n.cond.ps=B
   generalize lin p n.cond.ps=C
   generalize p n.node=D
   grind
  grind
theorem aQj (p:Int->Q){l:List QL}{o:List Int}(h:Tie l o):sm (e0 p) l=bil (aE l o o []) p p:=by
 obtain⟨d,_⟩:=h.dn
 have a1:=aFW p (fun _=>0) h
 have a2:=aFW (fun u=>- p u) (fun _=>0) h
 have a3:=aFW (fun _=>0) (fun _=>0) h
 have b1:=aRn p l
 have b2:=aRm p (aE l o o []) fun n hn=>(d.2 n hn).2
 grind
def Pin (b:List NQ):Prop:=∀ n∈b,∀ u∈psN n.cond,u=0\/∃ c∈b,c.node=u
theorem Pin.tail {n:NQ}{r:List NQ}(d:Dn (n::r))(h:Pin (n::r)):Pin r:=fun m hm u hu=>by
 rcases h m (by simp[hm]) u hu with h0 | ⟨c,hc,e⟩
 · exact .inl h0
 · rcases aTM.1 hc with rfl | hc
   · exact absurd (e▸hu) ((aUp.1 d.1).1 m hm).1
   · exact .inr ⟨c,hc,e⟩
/- What covariances are: the greatest of a form; positive, bounded, alike in all orders. -/
section
variable {l:List QL}{o:List Int}
theorem Tie.pin (h:Tie l o):Pin (aE l o o []):=fun n hn u hu=>((h.dn).2 n hn).2.2 u hu |>.imp id yD
theorem Tie.tpos (h:Tie l o):∀ n∈aE l o o [],0<n.cond.t:=fun n hn=>((h.dn).2 n hn).2.1
theorem Tie.wpos (h:Tie l o):∀ x∈l,0<x.w:=fun x hx=>(h.lk x hx).lk.1.sc.1
theorem aPL:∀ ps:List PQ,app (fun _=>0) (fun _=>0) ps=0
 | []=>rfl
 | x::r=>by rw[app,aPL r];grind
theorem aPM (f:Int->Q)(ps:List PQ):app f (fun _=>0) ps=lin f ps:=by rw[aFO,aPL];grind
theorem aSg (h:Tie l o){p:Int->Q}(p0:p 0=0)(hz:sm (e0 p) l<=0):∀ u∈o,p u=0:=by
 rw[aQj p h]at hz
 have z:=aKZ (f:=fun n=>n.cond.t*(rs p n*rs p n)) (l:=aE l o o []) (fun n hn=>aUt (by have:=h.tpos n hn;grind) (aDv _)) hz
 have hp:∀ n∈aE l o o [],p n.node=app p (fun _=>0) n.cond.ps:=fun n hn=>by
  have t:=h.tpos n hn
  rw[aPM]
  rcases aWB.1 (z n hn)with g | g
  · grind
  · have:rs p n=0:=by rcases aWB.1 g with g | g <;> exact g
    unfold rs at this;grind
 have hu:∀ (f:Int->Q),f 0=0->∀ n∈aE l o o [],∀ u∈psN n.cond,(∃ c∈aE l o o [],c.node=u)\/f u=0:=fun f f0 n hn u hu=>by
  rcases h.pin n hn u hu with g | g
  · exact .inr (by rw[g];exact f0)
  · exact .inl g
 intro u hu'
 obtain⟨c,hc,rfl⟩:=yD (l:=l) hu'
 have e1:=aDy (fun _=>0) p (h.dn).1 hp (hu p p0) c hc
 have e2:=aDy (fun _=>0) (fun _=>0) (h.dn).1 (fun n hn=>by rw[aPL]) (hu (fun _=>0) rfl) c hc
 rw[e1,<- e2]
def mn (a c:Q):Q:=if a<=c then a else c
end
/- The information matrix over the rational numbers. -/
def sl (f:Int->Q):List Int->Q
 | []=>0
 | u::r=>f u+sl f r
theorem sQ {f g:Int->Q}:∀ {N:List Int},(∀ u∈N,f u=g u)->sl f N=sl g N
 | [],_=>rfl
 | u::r,h=>by rw[sl,sl,h u (by simp),sQ fun w hw=>h w (by simp[hw])]
theorem aEt (f g:Int->Q):∀ N,sl (fun u=>f u+g u) N=sl f N+sl g N
 | []=>by simp only[sl];grind
 | u::r=>by rw[sl,sl,sl,aEt f g r];grind
theorem aFG:∀ N:List Int,sl (fun _=>0) N=0
 | []=>rfl
 | u::r=>by rw[sl,aFG r];grind
theorem aBL (f:Int->Q)(v:Int):∀ {N:List Int},N.Nodup->(v∈N\/f v=0)->sl (fun u=>if u=v then f u else 0) N=f v
 | [],_,h=>by rcases h with h | h;cases h;simp[sl,h]
 | u::r,hn,h=>by
  rw[aUM]at hn
  rw[sl]
  by_cases c:u=v
  · subst c
    rw[aTK rfl,sQ (g:=fun _=>0) fun w hw=>aTJ (fun e:w=u=>hn.1 (e▸hw)),aFG]
    grind
  · rw[aTJ c,aBL f v hn.2 (h.imp (fun h=>(aTM.1 h).resolve_left fun e=>c e.symm) id)]
    grind
theorem aL7 (G:Int->QL->Q)(N:List Int):∀ s:List QL,sl (fun u=>sm (G u) s) N=sm (fun x=>sl (fun u=>G u x) N) s
 | []=>by simp only[sm];exact aFG N
 | x::s=>by
  have e:(fun u=>sm (G u) (x::s))=fun u=>G u x+sm (G u) s:=rfl
  rw[e,aEt,aL7 G N s,sm]
theorem aAu {f g:QL->Q}:∀ {s:List QL},(∀ x∈s,f x=g x)->sm f s=sm g s
 | [],_=>rfl
 | x::s,h=>by rw[sm,sm,h x (by simp),aAu fun y hy=>h y (by simp[hy])]
theorem aL5 (k:Q)(f:QL->Q):∀ l:List QL,sm (fun x=>f x*k) l=sm f l*k
 | []=>by simp[sm]
 | x::l=>by rw[sm,sm,aL5 k f l];grind
def lk2 (v u:Int)(x:QL):Q:=if v=u then(if x.a=v\/x.b=v then x.w else 0)else if(x.a=v/\x.b=u)\/(x.a=u/\x.b=v)then-x.w else 0
def Lm (s:List QL)(v u:Int):Q:=sm (lk2 v u) s
theorem aQN (v u:Int)(x:QL):lk2 v u x=lk2 u v x:=by
 by_cases c:v=u
 · subst c;rfl
 · have c':¬u=v:=fun e=>c e.symm
   unfold lk2
   simp only[c,c',aT9]
   by_cases d:(x.a=v/\x.b=u)\/(x.a=u/\x.b=v)
   · simp only[d,d.symm,aT3]
   · have d':¬((x.a=u/\x.b=v)\/(x.a=v/\x.b=u)):=fun h=>d h.symm
     simp only[d,d',aT9]
theorem aSA (s:List QL)(v u:Int):Lm s v u=Lm s u v:=aAu fun x _=>aQN v u x
def gr2 (p:Int->Q)(v:Int)(x:QL):Q:=if v=x.a then x.w*(p x.a-p x.b)else if v=x.b then x.w*(p x.b-p x.a)else 0
structure Nset (N:List Int)(s:List QL):Prop where
 nd:N.Nodup
 pos:∀ u∈N,1<=u
 lt:∀ x∈s,0<=x.a/\x.a<x.b/\0<x.w
 epz:∀ x∈s,(x.a=0\/x.a∈N)/\x.b∈N
section
variable {N:List Int}{s:List QL}
theorem aRV (h:Nset N s){x:QL}(hx:x∈s){v:Int}(hv:v∈N){p:Int->Q}(p0:p 0=0):sl (fun u=>lk2 v u x*p u) N=gr2 p v x:=by
 obtain⟨l1,l2,l3⟩:=h.lt x hx
 obtain⟨m1,m2⟩:=h.epz x hx
 have v1:=h.pos v hv
 have e:∀ u,lk2 v u x*p u=(if u=v then(if x.a=v\/x.b=v then x.w*p u else 0)else 0)+((if u=x.b then(if x.a=v then(- x.w)*p u else 0)else 0)+(if u=x.a then(if x.b=v then(- x.w)*p u else 0)else 0)):=fun u=>by
  unfold lk2
  repeat' split
  all_goals first | (exfalso;omega) | grind
 rw[sQ fun u _=>e u,aEt,aEt,aBL (fun u=>if x.a=v\/x.b=v then x.w*p u else 0) v h.nd (.inl hv),aBL (fun u=>if x.a=v then(- x.w)*p u else 0) x.b h.nd (.inl m2),
  aBL (fun u=>if x.b=v then(- x.w)*p u else 0) x.a h.nd (m1.symm.imp id fun h0=>by rw[h0,p0];split <;> grind)]
 unfold gr2
 by_cases d1:v=x.a
 · subst d1
   repeat' split
   all_goals first | (exfalso;omega) | grind
 · by_cases d2:v=x.b
   · subst d2
     repeat' split
     all_goals first | (exfalso;omega) | grind
   · repeat' split
     all_goals first | (exfalso;omega) | grind
theorem aPZ (h:Nset N s){v:Int}(hv:v∈N){p:Int->Q}(p0:p 0=0):sl (fun u=>Lm s v u*p u) N=sm (gr2 p v) s:=by
 have e:(fun u=>Lm s v u*p u)=fun u=>sm (fun x=>lk2 v u x*p u) s:=funext fun u=>by rw[aL5];rfl
 rw[e,aL7]
 exact aAu fun x hx=>aRV h hx hv p0
theorem aMT (h:Nset N s){p q:Int->Q}(p0:p 0=0)(q0:q 0=0):sl (fun v=>q v*sl (fun u=>Lm s v u*p u) N) N=sm (fun x=>x.w*((q x.b-q x.a)*(p x.b-p x.a))) s:=by
 have e:sl (fun v=>q v*sl (fun u=>Lm s v u*p u) N) N=sl (fun v=>sm (fun x=>q v*gr2 p v x) s) N:=sQ fun v hv=>by
  rw[aPZ h hv p0,<- aAZ]
 rw[e,aL7]
 refine aAu fun x hx=>?_
 obtain⟨l1,l2,l3⟩:=h.lt x hx
 obtain⟨m1,m2⟩:=h.epz x hx
 have e2:∀ v,q v*gr2 p v x=(if v=x.a then q v*(x.w*(p x.a-p x.b))else 0)+(if v=x.b then q v*(x.w*(p x.b-p x.a))else 0):=fun v=>by
  unfold gr2
  repeat' split
  all_goals first | (exfalso;omega) | grind
 rw[sQ fun v _=>e2 v,aEt,aBL (fun v=>q v*(x.w*(p x.a-p x.b))) x.a h.nd (m1.symm.imp id fun h0=>by rw[h0,q0];grind),aBL (fun v=>q v*(x.w*(p x.b-p x.a))) x.b h.nd (.inl m2)]
 grind
end
/- Dense elimination starts well; what solves the normal equations is the solution. -/
theorem aN7 (f:Int->Q):∀ (N pre:List Int),su (fun j=>f ((pre++N).getD j 0)) pre.length N.length=sl f N
 | [],_=>rfl
 | u::r,pre=>by
  have ih:=aN7 f r (pre++[u])
  rw[aT4,aUr,aT0]at ih
  rw[aUh,su,sl]
  have e:(pre++u::r).getD pre.length 0=u:=by simp[aT1]
  rw[e]
  congr 1
theorem aRU (f:Int->Q)(N:List Int):su (fun j=>f (N.getD j 0)) 0 N.length=sl f N:=aN7 f N []
theorem aB9 {N:List Int}{i:Nat}(h:i<N.length):N.getD i 0∈N:=by
 rw[aT1,aTS h]
 exact aT2 h
theorem aQW {N:List Int}(hn:N.Nodup){i j:Nat}(hi:i<N.length)(hj:j<N.length)(h:i≠j):N.getD i 0≠N.getD j 0:=by
 rw[aT1,aT1,aTS hi,aTS hj]
 intro e
 have e:N[i]=N[j]:=e
 rcases Nat.lt_or_gt_of_ne h with c | c
 · exact(aVm.1 hn) i j hi hj c e
 · exact(aVm.1 hn) j i hj hi c e.symm
def aCT (N:List Int)(x:Nat->Q)(u:Int):Q:=if u∈N then x (N.idxOf u)else 0
theorem aBR {N:List Int}(hn:N.Nodup)(x:Nat->Q){i:Nat}(hi:i<N.length):aCT N x (N.getD i 0)=x i:=by
 unfold aCT
 rw[aTK (aB9 hi)]
 congr 1
 rw[aT1,aTS hi]
 exact hn.idxOf_getElem i hi
section
variable {N:List Int}{s:List QL}
theorem aI7 (h:Nset N s)(x:Nat->Q):aCT N x 0=0:=by
 unfold aCT
 rw[aTJ fun h0=>by have:=h.pos 0 h0;omega]
theorem aR6 (h:Nset N s){v u:Int}(hne:v≠u){x:QL}(hx:x∈s):lk2 v u x<=0:=by
 have:=(h.lt x hx).2.2
 unfold lk2
 rw[aTJ hne]
 split <;> grind
theorem aSB (h:Nset N s){v u:Int}(hne:v≠u):Lm s v u<=0:=by
 have:=iE (f:=fun x=>(-1)*lk2 v u x) (l:=s) fun x hx=>by have:=aR6 h hne hx;grind
 rw[aAZ]at this
 unfold Lm;grind
theorem aRc (h:Nset N s)(hw:sm wt s<=72)(v:Int):Lm s v v<=72:=by
 have:=aL6 (f:=lk2 v v) (g:=wt) (l:=s) fun x hx=>by
  have:=(h.lt x hx).2.2
  unfold lk2 wt
  rw[aTK rfl]
  split <;> grind
 unfold Lm;grind
theorem aRa (h:Nset N s){v:Int}(hv:v∈N):0<=sl (fun u=>Lm s v u) N:=by
 have e:=aPZ h hv (p:=fun u=>if u=0 then 0 else 1) (by simp)
 have e2:sl (fun u=>Lm s v u*(if u=0 then(0:Q)else 1)) N=sl (fun u=>Lm s v u) N:=sQ fun u hu=>by
  rw[aTJ (by have:=h.pos u hu;omega)];grind
 rw[<- e2,e]
 refine iE fun x hx=>?_
 obtain⟨l1,l2,l3⟩:=h.lt x hx
 have v1:=h.pos v hv
 unfold gr2
 have b0:¬x.b=0:=by omega
 simp only[b0,aT9]
 by_cases c:v=x.a
 · rw[aTK c,aTJ (by omega)];grind
 · rw[aTJ c]
   by_cases d:v=x.b
   · rw[aTK d]
     split <;> grind
   · rw[aTJ d];grind
end
theorem aQS (p:Int->Q){l:List QL}:(∀ x∈l,0<x.w)->sm (e0 p) (aR l [] 0).1=sm (e0 p) l:=by
 have gen:∀ (l s:List QL) (e:Q),(∀ x∈l,0<x.w)->(∀ x∈s,0<x.w)->sm (e0 p) (aR l s e).1=sm (e0 p) s+sm (e0 p) l:=by
  intro l
  induction l with
  | nil=>intro s e _ _;simp only[aR,sm];grind
  | cons x l ih =>
   intro s e hl hs
   have hx:=hl x (by simp)
   rw[aR,ih _ _ (fun y hy=>hl y (by simp[hy])) (aCg s x hs hx),aEi (f:=e0 p) (fun k l ha hb _ _=>by
    unfold e0 mrg
    simp only[]
    rw[ha,hb];grind) s x hs hx,sm]
   grind
 intro hl
 have:=gen l [] 0 hl (by simp)
 rw[this]
 simp only[sm];grind
theorem Tie.nset {l:List QL}{o:List Int}(h:Tie l o){N:List Int}(hn:N.Nodup)(hm:∀ u,u∈N↔u∈o):Nset N (aR l [] 0).1 where
 nd:=hn
 pos:=fun u hu=>(h.five u ((hm u).1 hu)).1
 lt:=fun x hx=>by
  obtain⟨y,hy,e1,e2⟩:=qX l [] 0 x hx
  have:=(h.lk y (hy.resolve_left (by simp))).1
  exact⟨by omega,by omega,aEN l [] 0 h.wpos (by simp) x hx⟩
 epz:=fun x hx=>by
  obtain⟨y,hy,e1,e2⟩:=qX l [] 0 x hx
  have hy:=hy.resolve_left (by simp)
  have hl:=(h.lk y hy).1
  rw[<- e1,<- e2]
  refine⟨?_,(hm _).2 ((h.mem _).2 ⟨by omega,y,hy,.inr rfl⟩)⟩
  by_cases c:y.a=0
  · exact .inl c
  · exact .inr ((hm _).2 ((h.mem _).2 ⟨by omega,y,hy,.inl rfl⟩))
section
variable {l:List QL}{o N:List Int}
theorem aPi (h:Tie l o)(hn:N.Nodup)(hm:∀ u,u∈N↔u∈o){A:Nat->Nat->Q}(hA:∀ i j,i<N.length->j<N.length->A i j=Lm (aR l [] 0).1 (N.getD i 0) (N.getD j 0)):GJ N.length 0 A:=by
 have ns:=h.nset hn hm
 have hw:sm wt (aR l [] 0).1<=72:=by
  have e:∀ (l s:List QL) (e:Q),(∀ x∈l,0<x.w)->(∀ x∈s,0<x.w)->sm wt (aR l s e).1=sm wt s+sm wt l:=by
   intro l
   induction l with
   | nil=>intro s e _ _;simp only[aR,sm];grind
   | cons x l ih =>
    intro s e hl hs
    have hx:=hl x (by simp)
    rw[aR,ih _ _ (fun y hy=>hl y (by simp[hy])) (aCg s x hs hx),aEi (f:=wt) (fun k l _ _ _ _=>aLl k l) s x hs hx,sm]
    grind
  rw[e l [] 0 h.wpos (by simp)]
  have:=h.base.hw
  simp only[sm];grind
 refine⟨fun i j _ hj=>by omega,fun i j _ hi _ hj=>?_,fun i j _ hi _ hj hne=>?_,fun i _ hi=>?_,fun i _ hi=>?_,fun i j hi _ _=>by omega,fun i hi=>by omega,fun x hx i hi=>?_⟩
 · rw[hA i j hi hj,hA j i hj hi,aSA]
 · rw[hA i j hi hj]
   exact aSB ns (aQW hn hi hj hne)
 · rw[hA i i hi hi]
   exact aRc ns hw _
 · rw[aVv,sK (g:=fun j=>Lm (aR l [] 0).1 (N.getD i 0) (N.getD j 0)) (fun j _ hj=>hA i j hi (by omega)),aRU (fun u=>Lm (aR l [] 0).1 (N.getD i 0) u)]
   exact aRa ns (aB9 hi)
 · have p0:=aI7 ns x
   have rows:∀ v∈N,sl (fun u=>Lm (aR l [] 0).1 v u*aCT N x u) N=0:=fun v hv=>by
    obtain⟨k,hk,rfl⟩:=aVk hv
    have ek:N[k]=N.getD k 0:=by rw[aT1,aTS hk];rfl
    rw[ek,<- aRU (fun u=>Lm (aR l [] 0).1 (N.getD k 0) u*aCT N x u)]
    have hk0:su (fun j=>A k j*x j) 0 N.length=0:=hx k hk
    refine Eq.trans ?_ hk0
    exact sK fun j _ hj=>by rw[aBR hn x (by omega),hA k j hk (by omega)]
   have f:=aMT ns p0 p0
   rw[sQ (g:=fun _=>0) (fun v hv=>by rw[rows v hv];grind),aFG]at f
   have e:=aQS (aCT N x) h.wpos
   have:sm (e0 (aCT N x)) (aR l [] 0).1=0:=f.symm
   rw[this]at e
   have z:=aSg h p0 (by rw[<- e];grind)
   have hmem:N.getD i 0∈o:=(hm _).1 (aB9 hi)
   rw[<- aBR hn x hi]
   exact z _ hmem
end
def pY (g:QL->Q)(v:Int)(x:QL):Q:=if v=x.b then x.w*g x else if v=x.a then-(x.w*g x)else 0
theorem aOm {N:List Int}{s:List QL}(h:Nset N s)(g:QL->Q){q:Int->Q}(q0:q 0=0):sl (fun v=>q v*sm (pY g v) s) N=sm (fun x=>x.w*g x*(q x.b-q x.a)) s:=by
 have e:sl (fun v=>q v*sm (pY g v) s) N=sl (fun v=>sm (fun x=>q v*pY g v x) s) N:=sQ fun v _=>by rw[<- aAZ]
 rw[e,aL7]
 refine aAu fun x hx=>?_
 obtain⟨l1,l2,l3⟩:=h.lt x hx
 obtain⟨m1,m2⟩:=h.epz x hx
 have e2:∀ v,q v*pY g v x=(if v=x.a then q v*(-(x.w*g x))else 0)+(if v=x.b then q v*(x.w*g x)else 0):=fun v=>by
  unfold pY
  repeat' split
  all_goals first | (exfalso;omega) | grind
 rw[sQ fun v _=>e2 v,aEt,aBL (fun v=>q v*(-(x.w*g x))) x.a h.nd (m1.symm.imp id fun h0=>by rw[h0,q0];grind),aBL (fun v=>q v*(x.w*g x)) x.b h.nd (.inl m2)]
 grind
theorem aNI {l:List QL}{o N:List Int}(h:Tie l o)(hn:N.Nodup)(hm:∀ u,u∈N↔u∈o){p q:Int->Q}(p0:p 0=0)(q0:q 0=0)
 (hp:∀ v∈N,sl (fun u=>Lm (aR l [] 0).1 v u*p u) N=sm (pY (·.x) v) (aR l [] 0).1) (hq:∀ v∈N,sl (fun u=>Lm (aR l [] 0).1 v u*q u) N=sm (pY (·.y) v) (aR l [] 0).1) :
 ∀ u∈o,p u=sol (·.x) (aE l o o []) u/\q u=sol (·.y) (aE l o o []) u:=by
 have ns:=h.nset hn hm
 have j:=fun a b=>aD7 a b l [] 0 h.wpos (by simp)
 have s0x:=aQp (·.x) h
 have s0y:=aQp (·.y) h
 have key:∀ (g:QL->Q) (a f:Int->Q),a 0=0->f 0=0->(∀ v∈N,sl (fun u=>Lm (aR l [] 0).1 v u*a u) N=sm (pY g v) (aR l [] 0).1)->
  sm (fun x=>x.w*((f x.b-f x.a-(a x.b-a x.a))*(a x.b-a x.a-g x))) (aR l [] 0).1=0:=fun g a f a0 f0 ha=>by
  have d0:(fun u=>f u-a u) 0=0:=by show f 0-a 0=0;rw[a0,f0];grind
  have f1:=aMT ns a0 (q:=fun u=>f u-a u) d0
  have f2:=aOm ns g (q:=fun u=>f u-a u) d0
  rw[sQ (g:=fun v=>(f v-a v)*sm (pY g v) (aR l [] 0).1) (fun v hv=>by rw[ha v hv])]at f1
  rw[f1]at f2
  have e:(fun x:QL=>x.w*((f x.b-f x.a-(a x.b-a x.a))*(a x.b-a x.a-g x)))=fun x=>x.w*((f x.b-a x.b-(f x.a-a x.a))*(a x.b-a x.a))+(-1)*(x.w*g x*(f x.b-a x.b-(f x.a-a x.a))):=funext fun x=>by grind
  have sa:∀ (F G:QL->Q) (s:List QL),sm (fun x=>F x+G x) s=sm F s+sm G s:=by
   intro F G s
   induction s with
   | nil=>simp only[sm];grind
   | cons x s ih=>rw[sm,sm,sm,ih];grind
  rw[e,sa,aAZ,f2]
  grind
 have k1:=key (·.x) p (sol (·.x) (aE l o o [])) p0 s0x hp
 have k2:=key (·.y) q (sol (·.y) (aE l o o [])) q0 s0y hq
 have le:sm (eP p q) (aR l [] 0).1<=sm (eP (sol (·.x) (aE l o o [])) (sol (·.y) (aE l o o []))) (aR l [] 0).1:=by
  have sa:∀ (F G:QL->Q) (s:List QL),sm (fun x=>F x+G x) s=sm F s+sm G s:=by
   intro F G s
   induction s with
   | nil=>simp only[sm];grind
   | cons x s ih=>rw[sm,sm,sm,ih];grind
  have e:sm (eP (sol (·.x) (aE l o o [])) (sol (·.y) (aE l o o []))) (aR l [] 0).1=sm (fun x=>(eP p q x+x.w*sqQ (sol (·.x) (aE l o o []) x.b-sol (·.x) (aE l o o []) x.a-(p x.b-p x.a)) (sol (·.y) (aE l o o []) x.b-sol (·.y) (aE l o o []) x.a-(q x.b-q x.a)))+(2*(x.w*((sol (·.x) (aE l o o []) x.b-sol (·.x) (aE l o o []) x.a-(p x.b-p x.a))*(p x.b-p x.a-x.x)))+2*(x.w*((sol (·.y) (aE l o o []) x.b-sol (·.y) (aE l o o []) x.a-(q x.b-q x.a))*(q x.b-q x.a-x.y))))) (aR l [] 0).1:=aAu fun x _=>by
   unfold eP sqQ
   grind
  rw[e,sa,sa,sa,aAZ,aAZ,k1,k2]
  have nn:0<=sm (fun x=>x.w*sqQ (sol (·.x) (aE l o o []) x.b-sol (·.x) (aE l o o []) x.a-(p x.b-p x.a)) (sol (·.y) (aE l o o []) x.b-sol (·.y) (aE l o o []) x.a-(q x.b-q x.a))) (aR l [] 0).1:=iE fun x hx=>by
   have:=(ns.lt x hx).2.2
   unfold sqQ
   exact aUt (by grind) (by have:=aDv (sol (·.x) (aE l o o []) x.b-sol (·.x) (aE l o o []) x.a-(p x.b-p x.a));have:=aDv (sol (·.y) (aE l o o []) x.b-sol (·.y) (aE l o o []) x.a-(q x.b-q x.a));grind)
  grind
 have j1:=j p q
 have j2:=j (sol (·.x) (aE l o o [])) (sol (·.y) (aE l o o []))
 have se:=aRl h
 exact(aQo h (List.Perm.refl l) p q).2 p0 q0 (by simp only[sm]at j1 j2;grind)
end Go.Ev
