/- Parts DD, DE, DF, DG, DH, VM, VN, VO, WA, WB, WC, UA, DI. -/
import Derived.Test.YtlhoochohnnepaaGreatPb4
set_option linter.all false
set_option maxHeartbeats 4000000
set_option maxRecDepth 20000
/- Dense elimination: all its numbers have few digits. -/
namespace Go.Ev
structure GB (n m T M:Nat)(A:Nat->Nat->Q):Prop where
 pos:0<T
 dv:∀ i j,i<n->j<m->Dv T (A i j)
 bd:∀ i j,i<n->j<m->bd M (A i j)
theorem GJ.col {n k:Nat}{A:Nat->Nat->Q}(h:GJ n k A)(hk:k<n){i:Nat}(hi:i<n):Go.Ev.bd 72 (A i k):=by
 have e72:((72:Nat):Q)=72:=rfl
 unfold Go.Ev.bd
 rw[e72]
 by_cases c:i<k
 · have t:=h.tsum i c
   have np:∀ j,k<=j->j<k+(n-k)->A i j<=0:=fun j h1 h2=>h.top i j c h1 (by omega)
   have:=aN8 np k (aTU _) (by omega)
   have:=np k (aTU _) (by omega)
   grind
 · have r:=h.rsum i (by omega) hi
   have d:=h.diag i (by omega) hi
   by_cases e:i=k
   · subst e
     have:=h.piv hk (by omega)
     grind
   · have o:=h.off i k (by omega) hi (aTU _) hk e
     have s:su (A i) k (n-k)<=A i k+A i i:=by
      rw[h.sum_k hk]
      have e1:n-(k+1)=(i-(k+1))+(1+(n-i-1)):=by omega
      rw[e1,aBH,aBH]
      have n1:su (A i) (k+1) (i-(k+1))<=0:=aJJ fun j h1 h2=>h.off i j (by omega) hi (by omega) (by omega) (by omega)
      have n2:su (A i) (k+1+(i-(k+1))+1) (n-i-1)<=0:=aJJ fun j h1 h2=>h.off i j (by omega) hi (by omega) (by omega) (by omega)
      have e2:k+1+(i-(k+1))=i:=by omega
      have e3:su (A i) (k+1+(i-(k+1))) 1=A i i:=by rw[e2];simp only[su];grind
      rw[e3]
      grind
     grind
theorem GB.step {n m k T M:Nat}{A:Nat->Nat->Q}(h:GB n m T M A)(g:GJ n k A)(hk:k<n)(hnm:n<=m) :
 ∃ z:Nat,0<z/\z<=72*T/\GB n m (z*T) (73*M*T+M) (gj k A)/\(∀ j,j<m->Dv z (A k j / A k k)/\Go.Ev.bd (M*T) (A k j / A k k))/\∀ i j,i<n->j<m->Dv (z*T) (A k j / A k k*A i k)/\Go.Ev.bd (M*T*72) (A k j / A k k*A i k):=by
 have hp:=g.piv hk (by omega)
 have hT:(0:Q)<(T:Q):=aQJ h.pos
 obtain⟨z,hz⟩:=h.dv k k hk (by omega)
 have z0:(0:Q)<(z:Q):=by rw[<- hz];exact aWF hp hT
 have z1:0<z:=by
  have:((0:Int):Q)<(z:Q):=by simpa using z0
  exact aWH.1 this
 obtain⟨y,rfl⟩:∃ y:Nat,z=(y:Int):=⟨z.toNat,by omega⟩
 have hy:((y:Int):Q)=(y:Q):=rfl
 rw[hy]at hz z0
 have y1:(1:Q)<=(y:Q):=by
  have:=aBS (m:=1) (n:=y) (by omega)
  simpa using this
 have hyT:y<=72*T:=by
  have d:=g.diag k (aTU _) hk
  have:(y:Q)<=((72*T:Nat):Q):=by
   rw[<- hz,aUO]
   exact aVI d (by grind)
  exact aVO.1 this
 have row:∀ j,j<m->Dv y (A k j / A k k)/\Go.Ev.bd (M*T) (A k j / A k k):=fun j hj=>by
  constructor
  · obtain⟨x,hx⟩:=h.dv k j hk hj
    refine⟨x,?_⟩
    rw[<- hx,<- hz]
    grind
  · have b:=h.bd k j hk hj
    have iT:1<=A k k*(T:Q):=by rw[hz];exact y1
    have mn:=xN M
    refine aEQ hp ?_ ?_
    · rw[aUO]
      have:=aUt mn (b:=A k k*(T:Q)-1) (by grind)
      have b1:=b.1
      grind
    · rw[aUO]
      have:=aUt mn (b:=A k k*(T:Q)-1) (by grind)
      have b2:=b.2
      grind
 have prod:∀ i j,i<n->j<m->Dv (y*T) (A k j / A k k*A i k)/\Go.Ev.bd (M*T*72) (A k j / A k k*A i k):=fun i j hi hj =>
  ⟨sH (row j hj).1 (h.dv i k hi (by omega)),oM (row j hj).2 (g.col hk hi)⟩
 refine⟨y,by omega,hyT,⟨aUq (by omega) h.pos,fun i j hi hj=>?_,fun i j hi hj=>?_⟩,row,prod⟩
 · by_cases c:i=k
   · rw[c,aG1];exact pL T (row j hj).1
   · rw[aAc c,aUm]
     exact oN (pL y (h.dv i j hi hj)) (by rw[aUm];exact(prod i j hi hj).1)
 · by_cases c:i=k
   · rw[c,aG1]
     refine xT (row j hj).2 ?_
     have:73*M*T=73*(M*T):=aUI _ _ _
     omega
   · rw[aAc c]
     refine xT (aBm (h.bd i j hi hj) (prod i j hi hj).2) ?_
     have:73*M*T=73*(M*T):=aUI _ _ _
     omega
def gjs (A:Nat->Nat->Q):Nat->Nat->Nat->Q
 | 0=>A
 | k+1=>gj k (gjs A k)
def TT:Nat->Nat
 | 0=>1
 | k+1=>72*TT k*TT k
def MM:Nat->Nat
 | 0=>1440
 | k+1=>73*MM k*TT k+MM k
theorem aRI {k:Nat}(h:k<=5):TT k<=72 ^ 31/\MM k<=10 ^ 70:=by
 match k,h with
 | 0,_=>decide
 | 1,_=>decide
 | 2,_=>decide
 | 3,_=>decide
 | 4,_=>decide
 | 5,_=>decide
theorem aJg {n m:Nat}{A:Nat->Nat->Q}(g:GJ n 0 A)(h:GB n m 1 1440 A)(hnm:n<=m):∀ k,k<=n->GJ n k (gjs A k)/\∃ T,T<=TT k/\GB n m T (MM k) (gjs A k)
 | 0,_=>⟨g,1,aTU _,h⟩
 | k+1,hk=>by
  obtain⟨g1,T,t,h1⟩:=aJg g h hnm k (by omega)
  obtain⟨z,_,z2,z3,_,_⟩:=h1.step g1 (by omega) hnm
  refine⟨g1.next (by omega),z*T,?_,?_⟩
  · rw[TT]
    exact aTY (aUd z2 t) (aUd (aT7 _ t) (aTU _))
  · rw[gjs,MM]
    refine⟨z3.pos,z3.dv,fun i j hi hj=>xT (z3.bd i j hi hj) ?_⟩
    have:=aT7 (73*MM k) t
    omega
theorem aDl {T B:Nat}{q:Q}(hT:0<T)(h:Dv T q)(b:bd B q)(t:T<=72 ^ 31)(hB:B<=10 ^ 150):bH q:=by
 refine aFK hT h (xT b (Nat.le_succ B)).1 (xT b (Nat.le_succ B)).2 (Nat.succ_pos _) ?_
 refine aU6 (aUd (Nat.succ_le_succ hB) t) ?_
 rw[aNS]
 decide
structure FitK (n m k:Nat)(A:Nat->Nat->Q):Prop where
 piv:0<A k k
 a:∀ i j,i<n->j<m->bH (A i j)
 q:∀ j,j<m->bH (A k j / A k k)
 p:∀ i j,i<n->j<m->bH (A k j / A k k*A i k)
 s:∀ i j,i<n->j<m->bH (gj k A i j)
theorem aQU {n m:Nat}{A:Nat->Nat->Q}(g:GJ n 0 A)(h:GB n m 1 1440 A)(hnm:n<=m)(hn:n<=5){k:Nat}(hk:k<n):FitK n m k (gjs A k):=by
 obtain⟨g1,T,t,h1⟩:=aJg g h hnm k (by omega)
 obtain⟨z,z1,z2,z3,z4,z5⟩:=h1.step g1 hk hnm
 obtain⟨t1,m1⟩:=aRI (k:=k) (by omega)
 have T5:=(aRI (k:=k+1) (by omega)).1
 have zT:z*T<=72 ^ 31:=by
  refine aTY ?_ T5
  rw[TT]
  exact aTY (aUd z2 t) (aUd (aT7 _ t) (aTU _))
 have zz:z<=72 ^ 31:=aTY (aVd z h1.pos) zT
 have t2:T<=72 ^ 31:=aTY t t1
 have mt:MM k*T<=10 ^ 130:=aTY (aUd m1 t2) (by decide)
 have m2:MM k<=10 ^ 150:=aTY m1 (by decide)
 refine⟨g1.piv hk (by omega),fun i j hi hj=>aDl h1.pos (h1.dv i j hi hj) (h1.bd i j hi hj) t2 m2,fun j hj=>aDl z1 (z4 j hj).1 (z4 j hj).2 zz (aTY mt (by decide)),
  fun i j hi hj=>aDl z3.pos (z5 i j hi hj).1 (z5 i j hi hj).2 zT (aTY (aUU 72 mt) (by decide)),fun i j hi hj=>aDl z3.pos (z3.dv i j hi hj) (z3.bd i j hi hj) zT ?_⟩
 have e:73*MM k*T=73*(MM k*T):=aUI _ _ _
 rw[e]
 have a1:73*(MM k*T)<=73*10 ^ 130:=aT7 _ mt
 have a2:73*10 ^ 130+10 ^ 70<=10 ^ 150:=by decide
 omega
theorem aME {n m:Nat}{A:Nat->Nat->Q}(g:GJ n 0 A)(h:GB n m 1 1440 A)(hnm:n<=m)(x:Nat->Q)(c:Nat):∀ k,k<=n->(Sat n (gjs A k) (fun i=>gjs A k i c) x↔Sat n A (fun i=>A i c) x)
 | 0,_=>Iff.rfl
 | k+1,hk=>by
  obtain⟨g1,_⟩:=aJg g h hnm k (by omega)
  have:=g1.piv (by omega) (by omega)
  rw[gjs,aSd (by omega) _ x (by grind)]
  exact aME g h hnm x c k (by omega)
theorem aQV {n m:Nat}{A:Nat->Nat->Q}(g:GJ n 0 A)(h:GB n m 1 1440 A)(hnm:n<=m)(c:Nat):Sat n A (fun i=>A i c) (fun i=>gjs A n i c):=by
 refine(aME g h hnm _ c n (aTU _)).1 ?_
 obtain⟨g1,_⟩:=aJg g h hnm n (aTU _)
 intro i hi
 rw[aKY _ n i hi fun j hj hne=>by rw[g1.unit i j hi hj,aTJ (fun e=>hne e.symm)];grind]
 rw[g1.unit i i hi hi,aTK rfl];grind
/- Dense elimination: the program's steps are the steps over the rational numbers. -/
theorem aLo {α ρ:Type}{step:Int×List α->Option ((Int×List α) ⊕ ρ)}(P:List α->Prop)(old new:List α)(fin:List α->ρ)(hl:new.length=old.length)(hP:P old)
 (h1:∀ (k:Nat) (hk:k<old.length) (hk':k<new.length) (m:List α),P m->m.length=old.length->m[k]?=some old[k]->step ((k:Int),m)=some (.inl (((k+1:Nat):Int),m.set k new[k]))/\P (m.set k new[k]))
 (h2:∀ m:List α,m.length=old.length->step ((old.length:Int),m)=some (.inr (fin m))):lp step (0,old)=some (fin new):=by
 have main:∀ n k:Nat,n+k=old.length->P (new.take k++old.drop k)->lp step ((k:Int),new.take k++old.drop k)=some (fin new):=by
  intro n
  induction n with
  | zero =>
   intro k hk _
   have:k=old.length:=by omega
   subst this
   have e:new.take old.length++old.drop old.length=new:=by rw[<- hl,aUY,hl,aU3,aUJ]
   rw[e]
   exact aJ (h2 new hl)
  | succ n ih =>
   intro k hk hp
   have hlt:k<old.length:=by omega
   have ht:(new.take k).length=k:=by rw[aUo];omega
   have hm:(new.take k++old.drop k).length=old.length:=by rw[aT4,ht,aUR];omega
   have hg:(new.take k++old.drop k)[k]?=some old[k]:=by
    rw[aUs (by omega),ht,aVo,aTQ hlt];rfl
   obtain⟨e1,e2⟩:=h1 k hlt (by omega) _ hp hm hg
   have es:(new.take k++old.drop k).set k (new[k]'(by omega))=new.take (k+1)++old.drop (k+1):=by
    rw[aVY _ _ (by omega),ht,aVo,aTQ hlt,aWg,<- List.take_append_getElem (l:=new) (h:=by omega),aT0,aUP]
   rw[es]at e1 e2
   rw[aS e1]
   exact ih (k+1) (by omega) e2
 have:=main old.length 0 (by omega) (by simpa using hP)
 simpa using this
def eU (m:Nat)(f:Nat->Q):List Rat:=(List.range m).map fun j=>ofQ (f j)
def rQ (n m:Nat)(A:Nat->Nat->Q):List (List Rat):=(List.range n).map fun i=>eU m (A i)
theorem fN (m:Nat)(f:Nat->Q):(eU m f).length=m:=by simp[eU]
theorem qI (n m:Nat)(A:Nat->Nat->Q):(rQ n m A).length=n:=by simp[rQ]
theorem zO {m:Nat}{f:Nat->Q}{j:Nat}(h:j<(eU m f).length):(eU m f)[j]=ofQ (f j):=by simp[eU]
theorem aAR {n m:Nat}{A:Nat->Nat->Q}{i:Nat}(h:i<(rQ n m A).length):(rQ n m A)[i]=eU m (A i):=by simp[rQ]
theorem wX {m:Nat}{f:Nat->Q}{j:Nat}(h:j<m):(eU m f)[j]?=some (ofQ (f j)):=by rw[aTS (by rw[fN];exact h),zO]
theorem aDu {n m:Nat}{A:Nat->Nat->Q}{i:Nat}(h:i<n):(rQ n m A)[i]?=some (eU m (A i)):=by rw[aTS (by rw[qI];exact h),aAR]
theorem aK9 {m:Nat}{f g:Nat->Q}(h:∀ j,j<m->f j=g j):eU m f=eU m g:=aV7 fun j hj=>by rw[h j (aWp.1 hj)]
theorem aA2 {p q:Q}(hp:bH p)(hq:bH q)(h:bH (p-q)):cE (ofQ p) (ofQ q)=some (ofQ (p-q)):=by
 have e:=(aHK (hU hp) (hU hq)).2.1
 rw[aPX hp hq h]at e;exact e
theorem aQB {p q:Q}(hp:bH p)(hq:bH q)(h0:q≠0)(h:bH (p / q)):dX (ofQ p) (ofQ q)=some (ofQ (p / q)):=by
 have e:=(aFC (hU hp) (hU hq)).2.1
 rw[aNQ hp hq h0 h]at e;exact e
theorem aOu {p:Q}(hp:bH p)(h0:p≠0):∃ g,oF (ofQ p)=some g/\g≠0:=by
 have hn : p.num.natAbs ≠ 0 := fun e => h0 (by have : p.num = 0 := by omega
                                               exact _root_.Rat.num_eq_zero.1 this)
 have hd:aA p.num.natAbs≠[]:=fun e=>hn (aDo.1 e)
 have hl:¬(((ofQ p).fNum.fMag.length:Int)=0):=fun e=>hd (aTW.1 (by
  have e2:(ofQ p).fNum.fMag=aA p.num.natAbs:=rfl
  rw[e2]at e;omega))
 unfold oF
 rw[aG0 hp]
 simp only[aTI,aT3]
 rw[aTL hl]
 simp only[aTP,aT9]
 by_cases c:(ofQ p).fNum.fNeg=true
 · exact⟨-1,by rw[aTK c],by omega⟩
 · exact⟨1,by rw[aTJ c],by omega⟩
theorem aB8 {m:Nat}{f:Nat->Q}(hm:m<=1000)(h:∀ j,j<m->bH (f j)):kB (eU m f)=some true:=by
 have hl:=fN m f
 have main:∀ n k:Nat,n+k=m->lp (pD (eU m f)) (k:Int)=some (.inl ()):=by
  intro n
  induction n with
  | zero=>intro k hk;exact aJ (by unfold pD;rw[aTJ (by omega)])
  | succ n ih =>
   intro k hk
   have hlt:k<(eU m f).length:=by omega
   rw[aS (s':=((k+1:Nat):Int))]
   · exact ih (k+1) (by omega)
   · unfold pD
     rw[aTK (by omega),aM hlt,zO]
     simp only[aTI]
     rw[aG0 (h k (by omega))]
     simp only[aTI,aT3]
     rw[wi (n:=(k:Int)+1) (by omega)];rfl
 have:=main m 0 (by omega)
 unfold kB
 rw[show((0:Nat):Int)=0 from rfl]at this
 rw[this]
 rfl
section
variable {n m k:Nat}{A:Nat->Nat->Q}
theorem aTx (h:FitK n m k A)(hk:k<n)(hnm:n<=m)(hm:m<=1000):lp (aOg ((eU m (A k)).length:Int) (ofQ (A k k))) (0,eU m (A k))=some (eU m (gj k A k)):=by
 have l1:=fN m (A k)
 have l2:=fN m (gj k A k)
 refine aLo (fun _=>True) (eU m (A k)) (eU m (gj k A k)) (fun r=>r) (by omega) trivial (fun j hj hj' r _ hr hg=>⟨?_,trivial⟩) (fun r _=>?_)
 · unfold aOg
   simp only[]
   have p0:=h.piv
   rw[aTK (by omega),hY,hg]
   simp only[aTI]
   rw[zO,aQB (h.a k j hk (by omega)) (h.a k k hk (by omega)) (by grind) (h.q j (by omega))]
   simp only[aTI,aL]
   rw[wi (n:=(j:Int)+1) (by omega),jO,zO,aG1]
   rfl
 · unfold aOg
   simp only[]
   rw[aTJ (by omega)]
theorem aRT (h:FitK n m k A)(hnm:n<=m)(hm:m<=1000){i:Nat}(hi:i<n)(hk:k<n)(hik:i≠k):nC (eU m (A i)) (eU m (gj k A k)) (ofQ (A i k))=some (true,eU m (gj k A i),eU m (gj k A k)):=by
 have l1:=fN m (A i)
 have l2:=fN m (gj k A k)
 have l3:=fN m (gj k A i)
 have e:lp (jR (eU m (A i)) (eU m (gj k A k)) (ofQ (A i k))) (0,eU m (A i))=some (eU m (gj k A i)):=by
  refine aLo (fun _=>True) (eU m (A i)) (eU m (gj k A i)) (fun r=>r) (by omega) trivial (fun j hj hj' r _ hr hg=>⟨?_,trivial⟩) (fun r _=>?_)
  · unfold jR
    simp only[]
    have e1:gj k A i j=A i j-(A k j / A k k)*A i k:=aAc hik A j
    have fs:=h.s i j hi (by omega)
    rw[e1]at fs
    rw[aTK (by omega),hY,hg,hY,wX (f:=gj k A k) (by omega)]
    simp only[aTI]
    rw[zO,aG1,xA (h.q j (by omega)) (h.a i k hi (by omega)) (h.p i j hi (by omega))]
    simp only[aTI]
    rw[aA2 (h.a i j hi (by omega)) (h.p i j hi (by omega)) fs]
    simp only[aTI,aL]
    rw[wi (n:=(j:Int)+1) (by omega),jO,zO,e1]
    rfl
  · unfold jR
    simp only[]
    rw[aTJ (by omega)]
 unfold nC qY
 rw[e]
 simp only[aTI]
 rw[aB8 hm fun j hj=>h.s i j hi hj]
 simp only[aTI]
 rw[aN ⟨by omega,trivial⟩]
 rfl
theorem aS1 (h:FitK n m k A)(hk:k<n)(hnm:n<=m)(hm:m<=1000):lp (aM5 (n:Int) (k:Int)) (0,(rQ n m A).set k (eU m (gj k A k)))=some (rQ n m (gj k A)):=by
 have lA:=qI n m A
 have lB:=qI n m (gj k A)
 have e0:((rQ n m A).set k (eU m (gj k A k))).length=n:=by rw[aVy];exact lA
 refine aLo (fun W=>W[k]?=some (eU m (gj k A k))) ((rQ n m A).set k (eU m (gj k A k))) (rQ n m (gj k A)) (fun r=>r) (by omega) (aVB (by omega)) (fun i hi hi' W hW hr hg=>?_) (fun r _=>?_)
 · have hin:i<n:=by omega
   by_cases c:i=k
   · subst c
     refine⟨?_,?_⟩
     · unfold aM5
       simp only[]
       rw[aTK (by omega),aTJ (by omega),wi (n:=(i:Int)+1) (by omega),aAR]
       have es:W.set i (eU m (gj i A i))=W:=by
        obtain⟨w1,w2⟩:=aUc.1 hW
        rw[<- w2,aWq]
       rw[es];rfl
     · rw[aAR]
       exact aVB (by omega)
   · have hg2:W[i]?=some (eU m (A i)):=by
      rw[hg,List.getElem_set_ne (fun e=>c e.symm),aAR]
     refine⟨?_,?_⟩
     · unfold aM5
       simp only[]
       rw[aTK (by omega),aTK (by omega),hY,hg2,hY,hW]
       simp only[aTI]
       rw[hY,wX (f:=A i) (by omega)]
       simp only[aTI]
       rw[aRT h hnm hm hin hk c]
       simp only[aTI]
       rw[aN trivial]
       simp only[aTI]
       rw[wi (n:=(i:Int)+1) (by omega),aAR,jO,jO]
       have es:(W.set i (eU m (gj k A i))).set k (eU m (gj k A k))=W.set i (eU m (gj k A i)):=by
        have w0:(W.set i (eU m (gj k A i)))[k]?=some (eU m (gj k A k)):=by rw[aWx c];exact hW
        obtain⟨w1,w2⟩:=aUc.1 w0
        conv=>lhs;rw[<- w2]
        exact aWq ..
       rw[es];rfl
     · rw[aWx c];exact hW
 · unfold aM5
   simp only[]
   rw[aTJ (by omega)]
theorem aS0 (h:FitK n m k A)(hk:k<n)(hnm:n<=m)(hm:m<=1000):aK7 (n:Int) ((k:Int),rQ n m A)=some (.inl (((k+1:Nat):Int),rQ n m (gj k A))):=by
 have p0:=h.piv
 obtain⟨g,g1,g2⟩:=aOu (h.a k k hk (by omega)) (by grind)
 have l1:=fN m (A k)
 have l2:=fN m (gj k A k)
 unfold aK7
 simp only[]
 rw[aTK (by omega),hY,aDu hk]
 simp only[aTI]
 rw[hY,wX (by omega)]
 simp only[aTI]
 rw[g1]
 simp only[aTI]
 rw[aN g2]
 simp only[aTI]
 rw[aTx h hk hnm hm]
 simp only[aTI]
 rw[aN (by omega)]
 simp only[aTI]
 rw[aB8 hm fun j hj=>h.s k j hk hj]
 simp only[aTI]
 rw[aN trivial]
 simp only[aTI]
 rw[jO,aS1 h hk hnm hm]
 simp only[aTI]
 rw[wi (n:=(k:Int)+1) (by omega)]
 rfl
end
theorem aPb {n m:Nat}{A:Nat->Nat->Q}(hn:n<=10)(hm:m<=1000)(h:∀ i j,i<n->j<m->bH (A i j)):pV (rQ n m A) (m:Int)=some true:=by
 have lA:=qI n m A
 have inner:∀ i,i<n->lp (kM (eU m (A i))) 0=some (.inl ()):=fun i hi=>by
  have l1:=fN m (A i)
  have main:∀ r k:Nat,r+k=m->lp (kM (eU m (A i))) (k:Int)=some (.inl ()):=by
   intro r
   induction r with
   | zero=>intro k hk;exact aJ (by unfold kM;rw[aTJ (by omega)])
   | succ r ih =>
    intro k hk
    rw[aS (s':=((k+1:Nat):Int))]
    · exact ih (k+1) (by omega)
    · unfold kM
      rw[aTK (by omega),hY,wX (by omega)]
      simp only[aTI]
      rw[aOH (h i k hi (by omega))]
      simp only[aTI,aT3]
      rw[wi (n:=(k:Int)+1) (by omega)];rfl
  exact main m 0 (by omega)
 have main:∀ r k:Nat,r+k=n->lp (nK (rQ n m A) (m:Int)) (k:Int)=some (.inl ()):=by
  intro r
  induction r with
  | zero=>intro k hk;exact aJ (by unfold nK;rw[aTJ (by omega)])
  | succ r ih =>
   intro k hk
   have l1:=fN m (A k)
   rw[aS (s':=((k+1:Nat):Int))]
   · exact ih (k+1) (by omega)
   · unfold nK
     rw[aTK (by omega),hY,aDu (by omega)]
     simp only[aTI]
     rw[aTJ (by omega),inner k (by omega)]
     simp only[aTI]
     rw[wi (n:=(k:Int)+1) (by omega)];rfl
 have e:=main n 0 (by omega)
 unfold pV
 rw[aTJ (by omega)]
 rw[show((0:Nat):Int)=0 from rfl]at e
 rw[e];rfl
theorem aQz {n m:Nat}{A:Nat->Nat->Q}(g:GJ n 0 A)(h:GB n m 1 1440 A)(hnm:n<=m)(hn:n<=5)(hm:m<=1000):lM (rQ n m A) (m:Int)=some (rQ n m (gjs A n),true):=by
 have lA:=qI n m A
 have lB:=qI n m (gjs A n)
 have main:∀ r k:Nat,r+k=n->lp (aK7 (n:Int)) ((k:Int),rQ n m (gjs A k))=some (rQ n m (gjs A n)):=by
  intro r
  induction r with
  | zero =>
   intro k hk
   have e:k=n:=by omega
   subst e
   exact aJ (by unfold aK7;simp only[];rw[aTJ (by omega)])
  | succ r ih =>
   intro k hk
   rw[aS (aS0 (aQU g h hnm hn (k:=k) (by omega)) (by omega) hnm hm)]
   exact ih (k+1) (by omega)
 have e:=main n 0 (by omega)
 rw[show((0:Nat):Int)=0 from rfl]at e
 unfold lM
 have f0:∀ i j,i<n->j<m->bH (A i j):=fun i j hi hj=>aDl h.pos (h.dv i j hi hj) (h.bd i j hi hj) (by decide) (by decide)
 rw[aPb (by omega) hm f0]
 simp only[aTI]
 rw[aN ⟨trivial,by omega,by omega,fun r hr=>by
  obtain⟨i,hi,rfl⟩:=aT5.1 hr
  rw[fN];omega⟩]
 simp only[aTI]
 rw[lA]
 have e':lp (aK7 (n:Int)) (0,rQ n m A)=some (rQ n m (gjs A n)):=e
 rw[e']
 simp only[aTI]
 rw[aN lB]
 rfl
/- The information matrix and the right sides, as the program computes them. -/
structure JS (s:List QL):Prop where
 fit:∀ x∈s,x.fit
 lk:∀ x∈s,Lk 1 20 x
 ord:s.Pairwise cY
 lt:∀ x∈s,0<=x.a/\x.a<x.b/\x.b<=9
 hw:sm wt s<=72
 len:s.length<=1000
 ls:LSet (s.map QL.toL)
theorem aJh {q:Q}(h:Dv 1 q)(b:bd 10000 q):bH q:=aDl (T:=1) (B:=10000) (by decide) h b (by decide) (by decide)
theorem aQA {p:Q}(hp:bH p):gF (ofQ p)=some (ofQ (-p)):=by
 have e:=(aLU (hU hp)).2.1
 rw[aSw hp]at e;exact e
section
variable {s:List QL}
theorem JS.wp (h:JS s){x:QL}(hx:x∈s):0<x.w:=(h.lk x hx).sc.1
theorem aL4 (h:JS s){p r:List QL}(e:s=p++r):sm wt p<=72:=by
 have:=h.hw
 rw[e,mV]at this
 have:=iE (f:=wt) (l:=r) fun x hx=>by have:=h.wp (x:=x) (by rw[e];simp[hx]);unfold wt;grind
 grind
theorem aRp {c:Q}(c0:0<=c){f:QL->Q}:∀ {p:List QL},(∀ x∈p,-(c*x.w)<=f x/\f x<=c*x.w)->-(c*sm wt p)<=sm f p/\sm f p<=c*sm wt p
 | [],_=>by simp only[sm];grind
 | x::p,h=>by
  have h1:=h x (by simp)
  have h2:=aRp c0 (f:=f) (p:=p) fun y hy=>h y (by simp[hy])
  simp only[sm]
  unfold wt at *
  grind
theorem aRo {f:QL->Q}:∀ {p:List QL},(∀ x∈p,Dv 1 (f x))->Dv 1 (sm f p)
 | [],_=>by simp only[sm];exact⟨0,by simp⟩
 | x::p,h=>lF (h x (by simp)) (aRo fun y hy=>h y (by simp[hy]))
theorem aRq (h:JS s){c:Nat}{f:QL->Q}{p r:List QL}(e:s=p++r)(hc:c<=100)(hf:∀ x∈s,-((c:Q)*x.w)<=f x/\f x<=(c:Q)*x.w)(hd:∀ x∈s,Dv 1 (f x)):Dv 1 (sm f p)/\bd (72*c) (sm f p):=by
 have cn:=xN c
 obtain⟨b1,b2⟩:=aRp cn (p:=p) (f:=f) fun x hx=>hf x (by rw[e];simp[hx])
 have w:=aL4 h e
 refine⟨aRo fun x hx=>hd x (by rw[e];simp[hx]),?_⟩
 have:=aUt cn (b:=72-sm wt p) (by grind)
 unfold bd
 rw[aUO]
 have e72:((72:Nat):Q)=72:=rfl
 rw[e72]
 constructor <;> grind
theorem aR8 (h:JS s)(v u:Int):∀ x∈s,(-(((1:Nat):Q)*x.w)<=lk2 v u x/\lk2 v u x<=((1:Nat):Q)*x.w):=fun x hx=>by
 have:=h.wp hx
 have e1:((1:Nat):Q)=1:=rfl
 unfold lk2
 rw[e1]
 repeat' split
 all_goals constructor <;> grind
theorem aR7 (h:JS s)(v u:Int):∀ x∈s,Dv 1 (lk2 v u x):=fun x hx=>by
 have d:=(h.lk x hx).sc.2.1
 unfold lk2
 repeat' split
 · exact d
 · exact⟨0,by simp⟩
 · exact aHv d
 · exact⟨0,by simp⟩
theorem aJu (h:JS s)(v u:Int){p r:List QL}(e:s=p++r):Dv 1 (Lm p v u)/\bd 72 (Lm p v u):=aRq h (c:=1) e (by omega) (aR8 h v u) (aR7 h v u)
theorem aP0 (h:JS s)(v u:Int){p r:List QL}(e:s=p++r):bH (Lm p v u):=aJh (aJu h v u e).1 (xT (aJu h v u e).2 (by omega))
theorem aRb (h:JS s){v u:Int}(hne:v≠u){p r:List QL}{x:QL}(e:s=p++x::r)(hm:(x.a=v/\x.b=u)\/(x.a=u/\x.b=v)):Lm p v u=0:=by
 have hx:=h.lt x (by rw[e];simp)
 have z:∀ y∈p,lk2 v u y=0:=fun y hy=>by
  have hy':=h.lt y (by rw[e];simp[hy])
  have o:=h.ord
  rw[e,aVf]at o
  have l:=o.2.2 y hy x (by simp)
  unfold cY at l
  unfold lk2
  rw[aTJ hne,aTJ (by omega)]
 unfold Lm
 have:∀ {p:List QL},(∀ y∈p,lk2 v u y=0)->sm (lk2 v u) p=0:=by
  intro p
  induction p with
  | nil=>intro _;rfl
  | cons y p ih=>intro h;rw[sm,h y (by simp),ih fun z hz=>h z (by simp[hz])];grind
 exact this z
theorem aPc (h:JS s)(v u:Int):kY (s.map QL.toL) v u=some (ofQ (Lm s v u)):=by
 have hl:=h.len
 have main:∀ r p:List QL,s=p++r->lp (fL (s.map QL.toL) v u) ((p.length:Int),ofQ (Lm p v u))=some (ofQ (Lm s v u)):=by
  intro r
  induction r with
  | nil =>
   intro p e
   rw[aUJ]at e
   subst e
   refine aJ ?_
   unfold fL
   simp only[]
   rw[aTJ (by rw[aTZ];omega)]
  | cons x r ih =>
   intro p e
   have hlen:(s.map QL.toL).length=p.length+1+r.length:=by rw[aTZ,e];simp;omega
   have hx:x∈s:=by rw[e];simp
   have lt:=h.lt x hx
   have fp:=aP0 h v u e
   have e2:s=(p++[x])++r:=by rw[e];simp
   have fq:=aP0 h v u e2
   have eL:Lm (p++[x]) v u=Lm p v u+lk2 v u x:=by unfold Lm;rw[mV];simp only[sm];grind
   have hg:idx (s.map QL.toL) (p.length:Int)=some x.toL:=by
    rw[hY,e,aUF,aUs (by simp),aTZ,aVo];rfl
   have fw:=(h.fit x hx).1
   refine(aS (s':=((((p++[x]).length:Nat):Int),ofQ (Lm (p++[x]) v u))) ?_).trans (ih (p++[x]) e2)
   have hpl:(((p++[x]).length:Nat):Int)=(p.length:Int)+1:=by simp
   have hlen2:(s.map QL.toL).length<=1000:=by rw[aTZ];exact hl
   unfold fL
   simp only[]
   rw[aTK (by omega),hg]
   simp only[aTI]
   have ea:x.toL.fA=x.a:=rfl
   have eb:x.toL.fB=x.b:=rfl
   have ew:x.toL.fWeight=ofQ x.w:=rfl
   rw[ea,eb,ew,wi (n:=(p.length:Int)+1) (by omega),hpl]
   by_cases c:v=u
   · subst c
     have n3:¬(x.a=v/\x.b=v):=by omega
     by_cases c1:x.a=v
     · have l1:lk2 v v x=x.w:=by unfold lk2;rw[aTK rfl,aTK (.inl c1)]
       have n2:¬x.b=v:=by omega
       rw[eL,l1]at fq ⊢
       rw[aTK rfl,aTK c1]
       simp only[aTI,aT3]
       rw[xB fp fw fq]
       simp only[aTI]
       rw[aTK c1,aTJ n2,aTK c1,aTL n2]
       simp only[aTI,aTP,aT9]
     · by_cases c2:x.b=v
       · have l1:lk2 v v x=x.w:=by unfold lk2;rw[aTK rfl,aTK (.inr c2)]
         rw[eL,l1]at fq ⊢
         rw[aTK rfl,aTJ c1,aTN c2]
         simp only[aTI,aT3]
         rw[xB fp fw fq]
         simp only[aTI]
         rw[aTJ c1,aTJ c1]
         simp only[aTI,aTP,aT9]
       · have l1:lk2 v v x=0:=by unfold lk2;rw[aTK rfl,aTJ (by omega)]
         have l2:Lm (p++[x]) v v=Lm p v v:=by rw[eL,l1];grind
         rw[l2]
         rw[aTK rfl,aTJ c1,aTL c2]
         simp only[aTI,aTP,aT9]
         rw[aTJ c1,aTJ c1]
         simp only[aTI,aTP,aT9]
   · rw[aTJ c]
     simp only[aTI,aTP,aT9]
     by_cases hm:(x.a=v/\x.b=u)\/(x.a=u/\x.b=v)
     · have l1:lk2 v u x=- x.w:=by unfold lk2;rw[aTJ c,aTK hm]
       have l2:Lm (p++[x]) v u=- x.w:=by rw[eL,l1,aRb h c e hm];grind
       rw[l2]
       have d:((if x.a=v then(if x.b=u then some true else(if x.a=u then some (decide (x.b=v))else some false))else(if x.a=u then some (decide (x.b=v))else some false)):Option Bool)=some true:=by
        rcases hm with⟨h1,h2⟩ | ⟨h1,h2⟩
        · rw[aTK h1,aTK h2]
        · rw[aTJ (by omega),aTK h1,aTN h2]
       rw[d]
       simp only[aTI,aT3]
       rw[aQA fw]
       rfl
     · have l1:lk2 v u x=0:=by unfold lk2;rw[aTJ c,aTJ hm]
       have l2:Lm (p++[x]) v u=Lm p v u:=by rw[eL,l1];grind
       rw[l2]
       have d:((if x.a=v then(if x.b=u then some true else(if x.a=u then some (decide (x.b=v))else some false))else(if x.a=u then some (decide (x.b=v))else some false)):Option Bool)=some false:=by
        by_cases h1:x.a=v
        · rw[aTK h1,aTJ (by omega)]
          by_cases h2:x.a=u
          · omega
          · rw[aTJ h2]
        · rw[aTJ h1]
          by_cases h2:x.a=u
          · rw[aTK h2,aTL (by omega)]
          · rw[aTJ h2]
       rw[d]
       simp only[aTI,aTP,aT9]
 have m:=main s [] rfl
 have z:Lm [] v u=0:=rfl
 rw[z]at m
 unfold kY
 rw[dJ 0 (by omega),aAe]
 simp only[aTI]
 have m':lp (fL (s.map QL.toL) v u) (0,ofQ 0)=some (ofQ (Lm s v u)):=m
 rw[m']
 rfl
end
/- Dense systems, solved by the program. -/
theorem aGd (m c:Nat)(f:Nat->Q):eU m f++eU c (fun j=>f (m+j))=eU (m+c) f:=by
 unfold eU
 rw[List.range_add,aUF,aVr]
 rfl
section
variable {s:List QL}
theorem aST (h:JS s){g:QL->Q}(hg:∀ x∈s,bd 20 (g x))(v:Int):∀ x∈s,(-(((20:Nat):Q)*x.w)<=pY g v x/\pY g v x<=((20:Nat):Q)*x.w):=fun x hx=>by
 have w:=h.wp hx
 obtain⟨b1,b2⟩:=aC9 w (hg x hx)
 have e20:((20:Nat):Q)=20:=rfl
 rw[e20]at *
 unfold pY
 repeat' split
 all_goals constructor <;> grind
theorem aSS {g:QL->Q}(hd:∀ x∈s,Dv 1 (x.w*g x))(v:Int):∀ x∈s,Dv 1 (pY g v x):=fun x hx=>by
 unfold pY
 repeat' split
 · exact hd x hx
 · exact aHv (hd x hx)
 · exact⟨0,by simp⟩
theorem wY (h:JS s){g:QL->Q}(hg:∀ x∈s,bd 20 (g x))(hd:∀ x∈s,Dv 1 (x.w*g x))(v:Int){p r:List QL}(e:s=p++r):Dv 1 (sm (pY g v) p)/\bd 1440 (sm (pY g v) p)/\bH (sm (pY g v) p):=by
 obtain⟨a,b⟩:=aRq h (c:=20) e (by omega) (aST h hg v) (aSS hd v)
 exact⟨a,b,aJh a (xT b (by omega))⟩
theorem JS.gx (h:JS s):(∀ x∈s,bd 20 x.x)/\∀ x∈s,Dv 1 (x.w*x.x):=⟨fun x hx=>(h.lk x hx).bx,fun x hx=>(h.lk x hx).sc.2.2.1⟩
theorem JS.gy (h:JS s):(∀ x∈s,bd 20 x.y)/\∀ x∈s,Dv 1 (x.w*x.y):=⟨fun x hx=>(h.lk x hx).by',fun x hx=>(h.lk x hx).sc.2.2.2⟩
theorem aNW (h:JS s){g:QL->Q}(hg:∀ x∈s,bd 20 (g x))(hd:∀ x∈s,Dv 1 (x.w*g x)){x:QL}(hx:x∈s):bH (x.w*g x):=by
 refine aJh (hd x hx) ?_
 obtain⟨b1,b2⟩:=aC9 (h.wp hx) (hg x hx)
 obtain⟨p,r,e⟩:=List.append_of_mem hx
 have w:=aL4 h (p:=p++[x]) (r:=r) (by rw[e];simp)
 have w2:=iE (f:=wt) (l:=p) fun y hy=>by have:=h.wp (x:=y) (by rw[e];simp[hy]);unfold wt;grind
 rw[mV]at w
 simp only[sm]at w
 unfold wt at w w2
 have e20:((20:Nat):Q)=20:=rfl
 have e1:((10000:Nat):Q)=10000:=rfl
 unfold bd
 rw[e20]at b1 b2
 rw[e1]
 constructor <;> grind
abbrev nds (s:List QL):List Int:=fF (s.map QL.toL)
def Mx (s:List QL)(i j:Nat):Q:=Lm s ((nds s).getD i 0) ((nds s).getD j 0)
def Vx (g:QL->Q)(s:List QL)(i:Nat):Q:=sm (pY g ((nds s).getD i 0)) s
theorem JS.ils (h:JS s):fS (s.map QL.toL)=some true:=by
 rw[aEm _ (by have:=h.ls.sz;omega),aTN h.ls]
theorem JS.nds_i (h:JS s):kA (s.map QL.toL)=some (nds s):=aIa (by have:=h.len;rw[aTZ];omega)
theorem aI9 {i:Nat}(hi:i<(nds s).length):idx (nds s) (i:Int)=some ((nds s).getD i 0):=by
 rw[aM hi,aT1,aTS hi];rfl
theorem aLW (h:JS s)(i j:Nat):Dv 1 (Mx s i j)/\bd 72 (Mx s i j)/\bH (Mx s i j):=by
 obtain⟨a,b⟩:=aJu h ((nds s).getD i 0) ((nds s).getD j 0) (p:=s) (r:=[]) (by simp)
 exact⟨a,b,aJh a (xT b (by omega))⟩
theorem aNr (h:JS s):gV (s.map QL.toL)=some (rQ (nds s).length (nds s).length (Mx s)):=by
 have nl:(nds s).length<=9:=tS (s.map QL.toL)
 have row:∀ i,i<(nds s).length->lp (fD (s.map QL.toL) (nds s) ((nds s).getD i 0)) (0,[])=some (eU (nds s).length (Mx s i)):=fun i hi=>by
  have rl:=fN (nds s).length (Mx s i)
  refine sV (eU (nds s).length (Mx s i)) (fun k t=>((k:Int),t)) (fun r=>r) (fun k t hk ht=>?_) (fun t ht=>?_)
  · unfold fD
    simp only[]
    rw[aTK (by omega),aI9 (by omega)]
    simp only[aTI]
    rw[aPc h]
    simp only[aTI]
    rw[aN (by omega)]
    simp only[aTI,aL]
    rw[wi (n:=(k:Int)+1) (by omega),zO]
    rfl
  · unfold fD
    simp only[]
    rw[aTJ (by omega)]
 have tl:=qI (nds s).length (nds s).length (Mx s)
 have m:lp (fC (s.map QL.toL) (nds s)) (0,[])=some (.inl (rQ (nds s).length (nds s).length (Mx s))):=by
  refine sV (rQ (nds s).length (nds s).length (Mx s)) (fun k t=>((k:Int),t)) (fun r=>(Sum.inl r:List (List Rat) ⊕ List (List Rat))) (fun k t hk ht=>?_) (fun t ht=>?_)
  · unfold fC
    simp only[]
    rw[aTK (by omega),aI9 (by omega)]
    simp only[aTI]
    rw[row k (by omega)]
    simp only[aTI]
    rw[aB8 (by omega) fun j _=>(aLW h k j).2.2]
    simp only[aTI,aT3]
    rw[aN (by omega)]
    simp only[aTI,aL]
    rw[wi (n:=(k:Int)+1) (by omega),aAR]
    rfl
  · unfold fC
    simp only[]
    rw[aTJ (by omega)]
 unfold gV
 rw[h.ils]
 simp only[aTI,aT3]
 rw[h.nds_i]
 simp only[aTI]
 rw[m]
 rfl
theorem aNq (h:JS s):gM (s.map QL.toL)=some (eU (nds s).length (Vx (·.x) s),eU (nds s).length (Vx (·.y) s)):=by
 have nl:(nds s).length<=9:=tS (s.map QL.toL)
 have hlen:=h.len
 have inner:∀ v:Int,lp (dH (s.map QL.toL) v) (0,ofQ 0,ofQ 0)=some (ofQ (sm (pY (·.x) v) s),ofQ (sm (pY (·.y) v) s)):=fun v=>by
  have main:∀ r p:List QL,s=p++r->lp (dH (s.map QL.toL) v) ((p.length:Int),ofQ (sm (pY (·.x) v) p),ofQ (sm (pY (·.y) v) p))=some (ofQ (sm (pY (·.x) v) s),ofQ (sm (pY (·.y) v) s)):=by
   intro r
   induction r with
   | nil =>
    intro p e
    rw[aUJ]at e
    subst e
    refine aJ ?_
    unfold dH
    simp only[]
    rw[aTJ (by rw[aTZ];omega)]
   | cons x r ih =>
    intro p e
    have hl:(s.map QL.toL).length=p.length+1+r.length:=by rw[aTZ,e];simp;omega
    have hl2:(s.map QL.toL).length<=1000:=by rw[aTZ];exact hlen
    have hx:x∈s:=by rw[e];simp
    have lt:=h.lt x hx
    have e2:s=(p++[x])++r:=by rw[e];simp
    have fx:=(wY h h.gx.1 h.gx.2 v e).2.2
    have fy:=(wY h h.gy.1 h.gy.2 v e).2.2
    have gx:=(wY h h.gx.1 h.gx.2 v e2).2.2
    have gy:=(wY h h.gy.1 h.gy.2 v e2).2.2
    have wx:=aNW h h.gx.1 h.gx.2 hx
    have wy:=aNW h h.gy.1 h.gy.2 hx
    have eL:∀ g:QL->Q,sm (pY g v) (p++[x])=sm (pY g v) p+pY g v x:=fun g=>by rw[mV];simp only[sm];grind
    rw[eL]at gx gy
    have hg:idx (s.map QL.toL) (p.length:Int)=some x.toL:=by
     rw[hY,e,aUF,aUs (by simp),aTZ,aVo];rfl
    obtain⟨fw,fX,fY⟩:=h.fit x hx
    refine(aS (s':=((((p++[x]).length:Nat):Int),ofQ (sm (pY (·.x) v) (p++[x])),ofQ (sm (pY (·.y) v) (p++[x])))) ?_).trans (ih (p++[x]) e2)
    have hpl:(((p++[x]).length:Nat):Int)=(p.length:Int)+1:=by simp
    unfold dH
    simp only[]
    rw[aTK (by omega),hg]
    simp only[aTI]
    have ea:x.toL.fA=x.a:=rfl
    have eb:x.toL.fB=x.b:=rfl
    have ew:x.toL.fWeight=ofQ x.w:=rfl
    have ex:x.toL.fDX=ofQ x.x:=rfl
    have ey:x.toL.fDY=ofQ x.y:=rfl
    rw[ea,eb,ew,ex,ey,wi (n:=(p.length:Int)+1) (by omega),hpl,eL,eL]
    by_cases c1:x.b=v
    · have r1:∀ g:QL->Q,pY g v x=x.w*g x:=fun g=>by unfold pY;rw[aTK c1.symm]
      rw[r1]at gx gy
      rw[r1,r1,aTK c1,xA fw fX wx]
      simp only[aTI]
      rw[xB fx wx gx]
      simp only[aTI]
      rw[xA fw fY wy]
      simp only[aTI]
      rw[xB fy wy gy]
      rfl
    · by_cases c2:x.a=v
      · have r1:∀ g:QL->Q,pY g v x=-(x.w*g x):=fun g=>by unfold pY;rw[aTJ (fun e=>c1 e.symm),aTK c2.symm]
        have r2:∀ a b:Q,a+-b=a-b:=fun a b=>by grind
        rw[r1,r2]at gx gy
        rw[r1,r1,r2,r2,aTJ c1,aTK c2,xA fw fX wx]
        simp only[aTI]
        rw[aA2 fx wx gx]
        simp only[aTI]
        rw[xA fw fY wy]
        simp only[aTI]
        rw[aA2 fy wy gy]
        rfl
      · have r1:∀ g:QL->Q,pY g v x=0:=fun g=>by unfold pY;rw[aTJ (fun e=>c1 e.symm),aTJ (fun e=>c2 e.symm)]
        have r2:∀ a:Q,a+0=a:=fun a=>by grind
        rw[r1,r1,r2,r2,aTJ c1,aTJ c2]
  exact main s [] rfl
 have vl:∀ g:QL->Q,(eU (nds s).length (Vx g s)).length=(nds s).length:=fun g=>fN _ _
 have outer:∀ r k:Nat,r+k=(nds s).length->lp (dG (s.map QL.toL) (nds s)) ((k:Int),eU k (Vx (·.x) s),eU k (Vx (·.y) s))=some (eU (nds s).length (Vx (·.x) s),eU (nds s).length (Vx (·.y) s)):=by
  intro r
  induction r with
  | zero =>
   intro k hk
   have e:k=(nds s).length:=by omega
   subst e
   exact aJ (by unfold dG;simp only[];rw[aTJ (by omega)])
  | succ r ih =>
   intro k hk
   refine(aS ?_).trans (ih (k+1) (by omega))
   have k1:=fN k (Vx (·.x) s)
   have k2:=fN k (Vx (·.y) s)
   unfold dG
   simp only[]
   rw[aTK (by omega),aI9 (by omega),dJ 0 (by omega),aAe]
   simp only[aTI]
   rw[inner]
   simp only[aTI]
   rw[aN (by omega)]
   simp only[aTI,aL]
   rw[aN (by omega)]
   simp only[aTI]
   rw[wi (n:=(k:Int)+1) (by omega),<- aGd k 1,<- aGd k 1]
   rfl
 have m:=outer (nds s).length 0 (by omega)
 have m':lp (dG (s.map QL.toL) (nds s)) (0,[],[])=some (eU (nds s).length (Vx (·.x) s),eU (nds s).length (Vx (·.y) s)):=m
 unfold gM
 rw[h.ils]
 simp only[aTI,aT3]
 rw[h.nds_i]
 simp only[aTI]
 rw[m']
 simp only[aTI]
 rw[aB8 (f:=Vx (·.x) s) (by omega) fun j _=>(wY h h.gx.1 h.gx.2 _ (p:=s) (r:=[]) (by simp)).2.2]
 simp only[aTI,aT3]
 rw[aB8 (f:=Vx (·.y) s) (by omega) fun j _=>(wY h h.gy.1 h.gy.2 _ (p:=s) (r:=[]) (by simp)).2.2]
 rfl
end
def ext (n:Nat)(A:Nat->Nat->Q)(b:Nat->Q):Nat->Nat->Q:=fun i j=>if j<n then A i j else b i
theorem aL3 {n:Nat}{A:Nat->Nat->Q}{b:Nat->Q}(g:GJ n 0 (ext n A b))(h:GB n (n+1) 1 1440 (ext n A b))(hn:n<=5):gK (rQ n n A) (eU n b)=some (eU n (fun i=>gjs (ext n A b) n i n),true):=by
 have tA:=qI n n A
 have tb:=fN n b
 have tE:=qI n (n+1) (ext n A b)
 have tR:=qI n (n+1) (gjs (ext n A b) n)
 have fA:∀ i j,i<n->j<n->bH (A i j):=fun i j hi hj=>by
  have e:ext n A b i j=A i j:=aTK hj
  rw[<- e]
  exact aDl h.pos (h.dv i j hi (by omega)) (h.bd i j hi (by omega)) (by decide) (by decide)
 have wide:lp (jU (rQ n n A) (eU n b)) (0,[])=some (rQ n (n+1) (ext n A b)):=by
  refine sV (rQ n (n+1) (ext n A b)) (fun k t=>((k:Int),t)) (fun r=>r) (fun k t hk ht=>?_) (fun t ht=>?_)
  · have l1:=fN n (A k)
    unfold jU
    simp only[]
    rw[aTK (by omega),hY,aDu (by omega)]
    simp only[aTI]
    rw[aN (by simp only[aUV];omega)]
    simp only[aTI,aL]
    rw[hY,wX (by omega)]
    simp only[aTI]
    rw[aN (by simp only[aTO];omega)]
    simp only[aTI]
    rw[aN (by omega)]
    simp only[aTI]
    rw[wi (n:=(k:Int)+1) (by omega),aAR,aTO,<- aGd n 1,aK9 (m:=n) (f:=ext n A b k) (g:=A k) (fun j hj=>aTK hj)]
    have e1:eU 1 (fun j=>ext n A b k (n+j))=[ofQ (b k)]:=by
     have e2:(fun j=>ext n A b k (n+j))=fun _=>b k:=funext fun j=>aTJ (by omega)
     rw[e2];rfl
    rw[e1]
    rfl
  · unfold jU
    simp only[]
    rw[aTJ (by omega)]
 have last:lp (jT (rQ n n A) (rQ n (n+1) (gjs (ext n A b) n),true)) (0,[])=some (eU n (fun i=>gjs (ext n A b) n i n)):=by
  have l1:=fN n (fun i=>gjs (ext n A b) n i n)
  refine sV (eU n (fun i=>gjs (ext n A b) n i n)) (fun k t=>((k:Int),t)) (fun r=>r) (fun k t hk ht=>?_) (fun t ht=>?_)
  · unfold jT
    simp only[]
    rw[aTK (by omega),hY,aDu (by omega)]
    simp only[aTI]
    rw[tA,hY,wX (by omega)]
    simp only[aTI]
    rw[aN (by omega)]
    simp only[aTI,aL]
    rw[wi (n:=(k:Int)+1) (by omega),zO]
    rfl
  · unfold jT
    simp only[]
    rw[aTJ (by omega)]
 unfold gK
 rw[tA,aPb (by omega) (by omega) fA]
 simp only[aTI,aT3]
 rw[tb,aTL (by omega)]
 simp only[aTP,aT9]
 rw[wide]
 simp only[aTI,aL]
 rw[wi (n:=(n:Int)+1) (by omega)]
 have e:=aQz g h (by omega) hn (by omega)
 have e':lM (rQ n (n+1) (ext n A b)) ((n:Int)+1)=some (rQ n (n+1) (gjs (ext n A b) n),true):=e
 rw[e']
 simp only[aTI,aT3]
 rw[last]
 rfl
/- The dense solution is the tree's. -/
abbrev jn (l:List QL):List QL:=(aR l [] 0).1
section
variable {l:List QL}{o:List Int}
theorem aQR (h:Tie l o):sm wt (jn l)<=72:=by
 have e:∀ (l s:List QL) (e:Q),(∀ x∈l,0<x.w)->(∀ x∈s,0<x.w)->sm wt (aR l s e).1=sm wt s+sm wt l:=by
  intro l
  induction l with
  | nil=>intro s e _ _;simp only[aR,sm];grind
  | cons x l ih =>
   intro s e hl hs
   have hx:=hl x (by simp)
   rw[aR,ih _ _ (fun y hy=>hl y (by simp[hy])) (aCg s x hs hx),aEi (f:=wt) (fun k l _ _ _ _=>aLl k l) s x hs hx,sm]
   grind
 show sm wt (aR l [] 0).1<=72
 rw[e l [] 0 h.wpos (by simp)]
 have:=h.base.hw
 simp only[sm];grind
theorem Tie.js (h:Tie l o):JS (jn l):=by
 obtain⟨j1,j2,j3,_⟩:=h.base.join
 have ls:=(aB4 j1).2.1
 have ll:=ls.len
 rw[aTZ]at ll
 refine⟨fun x hx=>(j2 x hx).1,fun x hx=>(j2 x hx).2.1,j3,fun x hx=>?_,aQR h,by show(aR l [] 0).1.length<=1000;omega,ls⟩
 obtain⟨a,b,c⟩:=(j2 x hx).2.2
 have r:∀ u,u∈(0::o)->0<=u/\u<=9:=fun u hu=>by
  rcases aTM.1 hu with rfl | hu
  · omega
  · have:=h.base.h1 u hu;omega
 exact⟨(r _ a).1,c,(r _ b).2⟩
theorem Tie.ndsP (h:Tie l o):(nds (jn l)).Perm o:=by
 obtain⟨a,b,c⟩:=h.isOrd
 exact aI4 a b (Nat.le_of_eq c.symm)
theorem Tie.nds5 (h:Tie l o):(nds (jn l)).length<=5:=by
 have:=h.ndsP.length_eq
 have:=h.base.len
 omega
def Rg (g:QL->Q)(s:List QL):Nat->Nat->Q:=ext (nds s).length (Mx s) (Vx g s)
def px (g:QL->Q)(s:List QL)(i:Nat):Q:=gjs (Rg g s) (nds s).length i (nds s).length
theorem Tie.gj0 (h:Tie l o){A:Nat->Nat->Q}(hA:∀ i j,j<(nds (jn l)).length->A i j=Mx (jn l) i j):GJ (nds (jn l)).length 0 A :=
 aPi h (oC _) (fun u=>h.ndsP.mem_iff) fun i j _ hj=>hA i j hj
theorem Tie.gbR (h:Tie l o){g:QL->Q}(hg:∀ x∈jn l,bd 20 (g x))(hd:∀ x∈jn l,Dv 1 (x.w*g x)):GJ (nds (jn l)).length 0 (Rg g (jn l))/\GB (nds (jn l)).length ((nds (jn l)).length+1) 1 1440 (Rg g (jn l)):=by
 refine⟨h.gj0 fun i j hj=>aTK hj,by decide,fun i j _ _=>?_,fun i j _ _=>?_⟩
 · unfold Rg ext
   split
   · exact(aLW h.js i j).1
   · exact(wY h.js hg hd _ (p:=jn l) (r:=[]) (by simp)).1
 · unfold Rg ext
   split
   · exact xT (aLW h.js i j).2.1 (by omega)
   · exact(wY h.js hg hd _ (p:=jn l) (r:=[]) (by simp)).2.1
theorem Tie.pxN (h:Tie l o){g:QL->Q}(hg:∀ x∈jn l,bd 20 (g x))(hd:∀ x∈jn l,Dv 1 (x.w*g x)):∀ v∈nds (jn l),sl (fun u=>Lm (jn l) v u*aCT (nds (jn l)) (px g (jn l)) u) (nds (jn l))=sm (pY g v) (jn l):=fun v hv=>by
 obtain⟨g1,g2⟩:=h.gbR hg hd
 obtain⟨k,hk,rfl⟩:=aVk hv
 have ek:(nds (jn l))[k]=(nds (jn l)).getD k 0:=by rw[aT1,aTS hk];rfl
 have c:su (fun j=>Rg g (jn l) k j*px g (jn l) j) 0 (nds (jn l)).length=Rg g (jn l) k (nds (jn l)).length:=aQV g1 g2 (by omega) (nds (jn l)).length k hk
 have r:Rg g (jn l) k (nds (jn l)).length=sm (pY g ((nds (jn l)).getD k 0)) (jn l):=aTJ (by omega)
 rw[ek,<- r,<- c,<- aRU (fun u=>Lm (jn l) ((nds (jn l)).getD k 0) u*aCT (nds (jn l)) (px g (jn l)) u)]
 exact sK fun j _ hj=>by
  have hj':j<(nds (jn l)).length:=by omega
  have e:Rg g (jn l) k j=Mx (jn l) k j:=aTK hj'
  rw[aBR (oC _) _ hj',e]
  rfl
theorem Tie.px_sol (h:Tie l o){i:Nat}(hi:i<(nds (jn l)).length):px (·.x) (jn l) i=sol (·.x) (aE l o o []) ((nds (jn l)).getD i 0)/\px (·.y) (jn l) i=sol (·.y) (aE l o o []) ((nds (jn l)).getD i 0):=by
 have nd:=oC ((jn l).map QL.toL)
 have ns:=h.nset nd fun u=>h.ndsP.mem_iff
 have d:=aNI h nd (fun u=>h.ndsP.mem_iff) (aI7 ns (px (·.x) (jn l))) (aI7 ns (px (·.y) (jn l))) (h.pxN h.js.gx.1 h.js.gx.2) (h.pxN h.js.gy.1 h.js.gy.2) ((nds (jn l)).getD i 0) (h.ndsP.mem_iff.1 (aB9 hi))
 rw[aBR nd _ hi,aBR nd _ hi]at d
 exact d
end
def dAt (G:Nat)(p q:Int->Q)(D:List Int):List Point:=(List.range (G+1)).map fun(i:Nat)=>if(decide (i=0)||decide ((i:Int)∈D))=true then ptQ p q (i:Int)else zP0
theorem aFN (G:Nat)(p q:Int->Q)(D:List Int):(dAt G p q D).length=G+1:=by unfold dAt;simp
theorem aJj {G:Nat}{p q:Int->Q}{D:List Int}{i:Nat}(hi:i<(dAt G p q D).length):(dAt G p q D)[i]=if(decide (i=0)||decide ((i:Int)∈D))=true then ptQ p q (i:Int)else zP0:=by
 simp only[dAt,aUZ,List.getElem_range]
theorem aQ2 (G:Nat){p q:Int->Q}(p0:p 0=0)(q0:q 0=0):(List.replicate (G+1) zP0).set 0 ⟨ofQ 0,ofQ 0⟩=dAt G p q []:=by
 apply aV6
 · rw[aVy,aFN];simp
 · intro i hi1 hi2
   rw[aV5,aJj]
   simp only[List.getElem_replicate]
   by_cases c:i=0
   · subst c
     rw[aTK rfl,aTK (by simp)]
     unfold ptQ
     rw[show((0:Nat):Int)=0 from rfl,p0,q0]
   · rw[aTJ (fun e=>c e.symm),aTJ (by simpa using c)]
theorem aQ1 {G:Nat}{p q:Int->Q}{D:List Int}{j:Nat}(hj:j<=G):(dAt G p q D).set j (ptQ p q (j:Int))=dAt G p q (D++[(j:Int)]):=by
 apply aV6
 · rw[aVy,aFN,aFN]
 · intro i hi1 hi2
   rw[aV5]
   by_cases c:j=i
   · rw[aTK c,aJj]
     subst c
     rw[aTK (by simp)]
   · rw[aTJ c,aJj,aJj]
     have e2:decide ((i:Int)∈D++[(j:Int)])=decide ((i:Int)∈D):=by
      apply decide_eq_decide.2
      rw[aTR,aUA]
      constructor
      · rintro(h | h)
        · exact h
        · omega
      · exact .inl
     rw[e2]
theorem aPd:∀ {N:List Int},N.Pairwise (· < ·)->∀ {k:Nat} (hk:k<N.length),k+1=N.length->∀ u∈N,u<=N[k]:=by
 intro N hN k hk hl u hu
 obtain⟨i,hi,rfl⟩:=aVk hu
 by_cases c:i=k
 · subst c;exact Int.le_refl _
 · have:=(aVm.1 hN) i k hi hk (by omega)
   omega
section
variable {l:List QL}{o:List Int}
theorem Tie.dense (h:Tie l o):lE ((jn l).map QL.toL)=some (vY (mE (aE l o o [])).toNat (aE l o o []),true):=by
 have js:=h.js
 have n5:=h.nds5
 obtain⟨x1,x2⟩:=h.gbR js.gx.1 js.gx.2
 obtain⟨y1,y2⟩:=h.gbR js.gy.1 js.gy.2
 have sx:gK (rQ (nds (jn l)).length (nds (jn l)).length (Mx (jn l))) (eU (nds (jn l)).length (Vx (·.x) (jn l)))=some (eU (nds (jn l)).length (px (·.x) (jn l)),true):=aL3 x1 x2 n5
 have sy:gK (rQ (nds (jn l)).length (nds (jn l)).length (Mx (jn l))) (eU (nds (jn l)).length (Vx (·.y) (jn l)))=some (eU (nds (jn l)).length (px (·.y) (jn l)),true):=aL3 y1 y2 n5
 have tl:=qI (nds (jn l)).length (nds (jn l)).length (Mx (jn l))
 have vx:=fN (nds (jn l)).length (Vx (·.x) (jn l))
 have vy:=fN (nds (jn l)).length (Vx (·.y) (jn l))
 obtain⟨t1,t2,t3,t4⟩:=h.netB.top
 obtain⟨_,_,f3⟩:=aG4 (aE l o o []) 0
 have inc:(nds (jn l)).Pairwise (· < ·):=yK ((jn l).map QL.toL)
 have memN:∀ u:Int,u∈nds (jn l)↔∃ c∈aE l o o [],c.node=u:=fun u=>by
  rw[h.ndsP.mem_iff]
  constructor
  · exact fun hu=>yD hu
  · rintro⟨c,hc,rfl⟩;exact((h.dn).2 c hc).1
 have pos:∀ u∈nds (jn l),1<=u:=fun u hu=>(h.base.h1 u (h.ndsP.mem_iff.1 hu)).1
 have size:((if(0<((nds (jn l)).length:Int))then(aX (IntKind.i64.wrap (((nds (jn l)).length:Int)-1))).bind fun v13=>(idx (nds (jn l)) v13).bind fun y14=>some (IntKind.i64.wrap (y14+1))else some 1):Option Int)=some ((((mE (aE l o o [])).toNat+1:Nat):Int)):=by
  by_cases c:0<(nds (jn l)).length
  · have hk:(nds (jn l)).length-1<(nds (jn l)).length:=by omega
    have il:idx (nds (jn l)) (((nds (jn l)).length:Int)-1)=some (nds (jn l))[(nds (jn l)).length-1]:=by
     have e:((nds (jn l)).length:Int)-1=(((nds (jn l)).length-1:Nat):Int):=by omega
     rw[e];exact aM hk
    have mx:=aPd inc hk (by omega)
    obtain⟨c0,hc0,ec0⟩:=(memN _).1 (aT2 hk)
    have up:(nds (jn l))[(nds (jn l)).length-1]<=mE (aE l o o []):=by rw[<- ec0];exact t4 c0 hc0
    have p1:=pos _ (aT2 hk)
    have lo:mE (aE l o o [])<=(nds (jn l))[(nds (jn l)).length-1]:=by
     rcases f3 with f3 | ⟨m,hm,e⟩
     · unfold mE;omega
     · have:=mx _ ((memN _).2 ⟨m,hm,rfl⟩)
       unfold mE;omega
    rw[aTK (by omega),aL,wi (n:=((nds (jn l)).length:Int)-1) (by omega),il]
    simp only[aTI]
    rw[wi (by omega)]
    congr 1
    omega
  · rw[aTJ (by omega)]
    have e0:nds (jn l)=[]:=aTW.1 (by omega)
    have z:mE (aE l o o [])=0:=by
     rcases f3 with f3 | ⟨m,hm,e⟩
     · exact f3
     · have:=(memN _).2 ⟨m,hm,rfl⟩
       rw[e0]at this;cases this
    rw[z];rfl
 have loop:∀ r k:Nat,r+k=(nds (jn l)).length->lp (iC (nds (jn l)) (eU (nds (jn l)).length (px (·.x) (jn l)),true) (eU (nds (jn l)).length (px (·.y) (jn l)),true)) ((k:Int),dAt (mE (aE l o o [])).toNat (sol (·.x) (aE l o o [])) (sol (·.y) (aE l o o [])) ((nds (jn l)).take k))=some (dAt (mE (aE l o o [])).toNat (sol (·.x) (aE l o o [])) (sol (·.y) (aE l o o [])) (nds (jn l))):=by
  intro r
  induction r with
  | zero =>
   intro k hk
   have e:k=(nds (jn l)).length:=by omega
   subst e
   rw[aUY]
   exact aJ (by unfold iC;simp only[];rw[aTJ (by omega)])
  | succ r ih =>
   intro k hk
   have hlt:k<(nds (jn l)).length:=by omega
   refine(aS ?_).trans (ih (k+1) (by omega))
   have gm:=aB9 hlt
   have p1:=pos _ gm
   obtain⟨c0,hc0,ec0⟩:=(memN _).1 gm
   have up:=t4 c0 hc0
   obtain⟨v,ev⟩:=aWk (by omega:0<=(nds (jn l)).getD k 0)
   have dl:=aFN (mE (aE l o o [])).toNat (sol (·.x) (aE l o o [])) (sol (·.y) (aE l o o [])) ((nds (jn l)).take k)
   have hv:v<=(mE (aE l o o [])).toNat:=by omega
   obtain⟨q1,q2⟩:=h.px_sol hlt
   unfold iC
   simp only[]
   rw[aTK (by omega),aI9 hlt]
   simp only[aTI]
   rw[hY,wX hlt]
   simp only[aTI]
   rw[hY,wX hlt]
   simp only[aTI]
   rw[q1,q2,ev,aM (by omega:v<_)]
   simp only[aTI,aL]
   rw[jO,wi (n:=(k:Int)+1) (by omega)]
   have e:=aQ1 (p:=sol (·.x) (aE l o o [])) (q:=sol (·.y) (aE l o o [])) (D:=(nds (jn l)).take k) hv
   have et:(nds (jn l)).take k++[(v:Int)]=(nds (jn l)).take (k+1):=by
    have eg:(nds (jn l))[k]=(v:Int):=by
     have:=ev
     rw[aT1,aTS hlt]at this
     exact this
    rw[<- eg]
    exact List.take_append_getElem hlt
   rw[et]at e
   have e':(dAt (mE (aE l o o [])).toNat (sol (·.x) (aE l o o [])) (sol (·.y) (aE l o o [])) ((nds (jn l)).take k)).set v ⟨ofQ (sol (·.x) (aE l o o []) (v:Int)),ofQ (sol (·.y) (aE l o o []) (v:Int))⟩=dAt (mE (aE l o o [])).toNat (sol (·.x) (aE l o o [])) (sol (·.y) (aE l o o [])) ((nds (jn l)).take (k+1)):=e
   rw[e']
   rfl
 have fin:dAt (mE (aE l o o [])).toNat (sol (·.x) (aE l o o [])) (sol (·.y) (aE l o o [])) (nds (jn l))=vY (mE (aE l o o [])).toNat (aE l o o []):=by
  unfold dAt vY
  refine aV7 fun i _=>?_
  have e:decide ((i:Int)∈nds (jn l))=(aE l o o []).any fun c=>decide (c.node=(i:Int)):=by
   rw[Bool.eq_iff_iff,aUQ,memN,aWt]
   constructor
   · rintro⟨c,h1,h2⟩;exact⟨c,h1,aTN h2⟩
   · rintro⟨c,h1,h2⟩;exact⟨c,h1,aUi h2⟩
  rw[e]
 have i0:∀ (n:Nat) (z:Point),idx (List.replicate (n+1) z) 0=some z:=fun n z=>by unfold idx;simp
 have s0:∀ (l:List Point) (z:Point),nS l 0 z=l.set 0 z:=fun l z=>rfl
 have lz:=loop (nds (jn l)).length 0 (by omega)
 rw[aVF,<- aQ2 _ (aQp (·.x) h) (aQp (·.y) h),fin,show((0:Nat):Int)=0 from rfl]at lz
 unfold zP0 at lz
 unfold lE
 rw[js.ils]
 simp only[aTI,aT3]
 rw[js.nds_i]
 simp only[aTI]
 rw[aNr js]
 simp only[aTI]
 rw[aNq js]
 simp only[aTI]
 rw[aTJ (by omega),aTJ (by omega),aTL (by omega)]
 simp only[aTI,aTP,aT9]
 rw[sx]
 simp only[aTI]
 rw[sy]
 simp only[aTI,aT3,aUL,aTP,aT9]
 rw[size]
 simp only[aTI]
 rw[aN (by omega)]
 simp only[aTI]
 rw[aIz]
 simp only[aTI,aL]
 rw[aUf,i0]
 simp only[aTI]
 rw[s0,lz]
 rfl
end
/- What an inserted link changes lies in the list: done. -/
/- Inserting a link: the program alone. -/
/- The law of inserting. -/
/- A link taken away: which nodes stay as they are. -/
section
variable {l l2:List QL}{o e:List Int}{k:QL}{L:Int->Prop}
end
/- Deleting a link: what the program yields; what changes. -/
section
variable {l A B:List QL}{o:List Int}{k:QL}
end
/- The law of deleting. -/
theorem aOf (a:List Point)(hl:a.length<=1000)(h:∀ p∈a,bB p.fX<=4294967296/\bB p.fY<=4294967296):pG a a=some true:=by
 have main:∀ m k:Nat,m+k=a.length->lp (lD a a) (k:Int)=some (.inl ()):=by
  intro m
  induction m with
  | zero=>intro k hk;exact aJ (by unfold lD;rw[aTJ (by omega)])
  | succ m ih =>
   intro k hk
   have hlt:k<a.length:=by omega
   obtain⟨h1,h2⟩:=h _ (aT2 hlt)
   rw[aS (s':=((k+1:Nat):Int))]
   · exact ih (k+1) (by omega)
   · unfold lD
     rw[aTK (by omega),aM hlt]
     simp only[aTI]
     rw[dD _ _ h1,dD _ _ h2]
     simp only[aTI,aVx,aT3,aUL,aTP,aT9]
     rw[wi (n:=(k:Int)+1) (by omega)];rfl
 have:=main a.length 0 (by omega)
 unfold pG
 rw[aTJ (by simp),show(0:Int)=((0:Nat):Int)from rfl,this]
 rfl
theorem aTa {l:List QL}{o:List Int}(h:Tie l o):(vY (mE (aE l o o [])).toNat (aE l o o [])).length<=1000/\∀ p∈vY (mE (aE l o o [])).toNat (aE l o o []),bB p.fX<=4294967296/\bB p.fY<=4294967296:=by
 obtain⟨t1,t2,t3,t4⟩:=h.netB.top
 refine⟨by rw[yL];omega,fun p hp=>?_⟩
 obtain⟨i,hi,rfl⟩:=aVk hp
 rw[aDR]
 split
 · obtain⟨T,b1,sx,sy⟩:=aDz _ 0 h.netB.nb
   have ep:=aLz (k:=0) (n:=(aE l o o []).length) (by have:=h.netB.len;omega)
   have hl:=h.netB.len
   have fx:=aHI sx.1 (sx.2 (i:Int)).1 (sx.2 (i:Int)).2 (by omega) (iK (aTY b1 ep) (by omega))
   have fy:=aHI sy.1 (sy.2 (i:Int)).1 (sy.2 (i:Int)).2 (by omega) (iK (aTY b1 ep) (by omega))
   have e1:=mL (hU fx)
   have e2:=mL (hU fy)
   exact⟨by show bB (ofQ _)<=_;omega,by show bB (ofQ _)<=_;omega⟩
 · exact⟨by decide,by decide⟩
/- A tree and a further order of its nodes, drawn. -/
theorem aNe (c:l01Cur)(s:List Int)(hs:s.length<=9):∀ (m k:Nat) (a:List Int) (fi fh:Int),m+k=s.length->rO ⟨c.fb,fi,fh⟩->a.Perm (s.take k)->
 ∃ a':List Int,lp (jG s c) ((k:Int),fi,fh,a)=some a'/\a'.Perm s:=by
 intro m
 induction m with
 | zero =>
  intro k a fi fh hm hc hp
  refine⟨a,aJ ?_,by rw[aUz (by omega)]at hp;exact hp⟩
  unfold jG
  simp only[]
  rw[aTJ (by omega)]
 | succ m ih =>
  intro k a fi fh hm hc hp
  have hlt:k<s.length:=by omega
  have hl:a.length=k:=by rw[hp.length_eq,aUo];omega
  obtain⟨r,a1,b1,c1,d1⟩:=sD ⟨c.fb,fi,fh⟩ ((k:Int)+1) hc (by omega)
  have e1:sub a 0 r.1=some (a.take r.1.toNat):=by rw[qC _ _ _ (by omega)];simp
  have e2:sub a r.1 (a.length:Int)=some (a.drop r.1.toNat):=by
   rw[qC _ _ _ (by omega),aUz (by rw[aUR];omega)]
  have t1:(a.take r.1.toNat).length<=9:=by rw[aUo];omega
  have t2:(a.drop r.1.toNat).length<=9:=by rw[aUR];omega
  have st:jG s c ((k:Int),fi,fh,a)=some (.inl (((k+1:Nat):Int),r.2.fi,r.2.fh,a.take r.1.toNat++[s[k]]++a.drop r.1.toNat)):=by
   unfold jG
   simp only[]
   rw[aTK (by omega),aM hlt]
   simp only[aTI,aL]
   rw[wi (n:=(a.length:Int)+1) (by omega),hl,a1]
   simp only[aTI]
   rw[e1]
   simp only[aTI,aTO,aUV,aUg]
   rw[aN (by omega)]
   simp only[aTI,aL]
   rw[aN (by omega)]
   simp only[aTI,aL]
   rw[hl]at e2
   rw[e2]
   simp only[aTI]
   rw[aN (by rw[aT4,aUr];omega),wi (n:=(k:Int)+1) (by omega)]
   rfl
  rw[aS st]
  refine ih (k+1) _ _ _ (by omega) (xR c1 d1) ?_
  rw[aVH,aTS hlt]
  have p1:(a.take r.1.toNat++[s[k]]++a.drop r.1.toNat).Perm (a++[s[k]]):=by
   rw[aT0]
   refine(List.Perm.append_left _ List.perm_append_comm).trans ?_
   rw[<- aT0,aUx]
  exact p1.trans (hp.append_right _)
theorem aQF (code:List Int)(h:code.length<=1048576){n:Int}{l:List QL}(hl:LinkL n l)(es:eH (l.map QL.toL)=some (pk (jnP (l.map QL.toL)))) :
 ∃ s o,(eH (l.map QL.toL)).bind (fun r=>some r.1)=some s/\mU code s=some o/\Tie l o/\∃ e,jnP (l.map QL.toL)=some (s,e):=by
 obtain⟨s,e,j1,j2,j3⟩:=hl.tie0.join
 rw[j1]at es
 obtain⟨c,e1,c1⟩:=aQI code 9 (by omega) h
 have ns:=aET j2
 rw[j3]at ns
 obtain⟨o,a3,p3⟩:=aNe c (fF (l.map QL.toL)) (tS _) _ 0 [] c.fi c.fh (aUw _) c1 (by simp)
 refine⟨s,o,by rw[es];rfl,?_,hl.tie (p3.nodup_iff.2 (oC _)) (fun u=>p3.mem_iff),e,j1⟩
 unfold mU
 rw[e1];simp only[aTI]
 rw[ns];simp only[aTI]
 rw[show((0:Nat):Int)=0 from rfl]at a3
 rw[a3]
 rfl
theorem aSk (code:List Int)(h:code.length<=1048576):∃ (n:Int) (l:List QL) (o o2:List Int) (S:List Link),aCQ code=some (mD l o)/\kQ code=some (l.map QL.toL)/\uF code=some S/\mU code S=some o2/\LinkL n l/\(1<=n/\n<=4)/\Tie l o/\Tie l o2/\∃ e,jnP (l.map QL.toL)=some (S,e):=by
 obtain⟨c,e1,c1,f1⟩:=aRu code h
 obtain⟨r,a1,b1,cc1,d1⟩:=sD ⟨c.fb,c.fi,c.fh⟩ 4 c1 (by omega)
 obtain⟨l,c2,a2,o2,f2,hl⟩:=aR9 ⟨c.fb,r.2.fi,r.2.fh⟩ (1+r.1) (xR cc1 d1) (by omega)
 obtain⟨s,e,j1,j2,j3⟩:=hl.tie0.join
 have hz:=hl.tie0.sz
 have js:=(aAd (l.map QL.toL) (by omega)).1
 obtain⟨S,ord2,q1,q2,q3,q4⟩:=aQF code h hl js
 rw[j1]at js
 have ns:=aET j2
 rw[j3]at ns
 obtain⟨o,f3,g3,a3,o3,p3⟩:=aOG c (fF (l.map QL.toL)) (tS _) _ 0 [] c2.fi c2.fh (aUw _) (xR o2 f2) (by simp)
 have ht:Tie l o:=hl.tie (p3.nodup_iff.2 (oC _)) fun u=>p3.mem_iff
 have el:aAV ⟨c.fb,c.fi,c.fh⟩=some (l.map QL.toL,o,⟨c.fb,f3,g3⟩):=by
  unfold aAV
  rw[a1];simp only[aTI]
  rw[wi (n:=1+r.1) (by omega),a2];simp only[aTI]
  rw[js];simp only[aTI,pk]
  rw[ns];simp only[aTI]
  rw[show((0:Nat):Int)=0 from rfl]at a3
  rw[a3]
  rfl
 have hz2:=ht.sz
 have ho:o.length<=5:=ht.base.len
 have bq:=(aJz (l.map QL.toL) o (by omega) (by omega)).1
 rw[ht.build]at bq
 have em:kQ code=some (l.map QL.toL):=by
  unfold kQ
  rw[e1];simp only[aTI]
  rw[a1];simp only[aTI]
  rw[wi (n:=1+r.1) (by omega),a2]
  rfl
 refine⟨1+r.1,l,o,ord2,S,?_,em,?_,q2,hl,by omega,ht,q3,q4⟩
 · unfold aCQ aDx
   rw[e1];simp only[aTI]
   rw[el];simp only[aTI]
   rw[bq]
   rfl
 · unfold uF
   rw[em];simp only[aTI]
   exact q1
/- The energy at the solution; the law of trees. -/
section
variable {T M:Nat}{p q:Int->Q}{x:QL}
theorem aEe (hx:LkI x)(hp:aCN T 2000 p)(hq:aCN T 2000 q)(t:T<=PP ^ 2) :
 bH (p x.b-p x.a)/\bH (p x.b-p x.a-x.x)/\bH ((p x.b-p x.a-x.x)*(p x.b-p x.a-x.x))/\bH (q x.b-q x.a)/\bH (q x.b-q x.a-x.y)/\bH ((q x.b-q x.a-x.y)*(q x.b-q x.a-x.y))/\
 bH (sqQ (p x.b-p x.a-x.x) (q x.b-q x.a-x.y))/\Dv (T*T) (eP p q x)/\0<=eP p q x/\eP p q x<=((290887200:Nat):Q)/\bH (eP p q x):=by
 have de:=aRD hx (fun u=>(hp.2 u).1) (fun u=>(hq.2 u).1)
 obtain⟨l1,l2,l3⟩:=hx.lk
 obtain⟨_,w,a,b,hw,ha,hb,e1,e2,e3⟩:=hx
 have T0:=hp.1
 have TT0:0<T*T:=aUq T0 T0
 have t6:T<=PP ^ 6:=iK t (by omega)
 have tt6:T*T<=PP ^ 6:=iK (a:=4) (by
  have:=aUd t t
  rw[<- Nat.pow_add]at this;exact this) (by omega)
 have up:∀ z:Int,Dv T (z:Q):=fun z=>by have:=pL T (aDr z);rwa [Nat.one_mul]at this
 have bx:bd 20 x.x:=l1.bx
 have by1:bd 20 x.y:=l1.by'
 have d1:Dv T (p x.b-p x.a):=oN (hp.2 _).1 (hp.2 _).1
 have b1:bd 4000 (p x.b-p x.a):=aBm (hp.2 x.b).2 (hp.2 x.a).2
 have d2:Dv T (q x.b-q x.a):=oN (hq.2 _).1 (hq.2 _).1
 have b2:bd 4000 (q x.b-q x.a):=aBm (hq.2 x.b).2 (hq.2 x.a).2
 have d3:Dv T (p x.b-p x.a-x.x):=oN d1 (by rw[e2];exact up _)
 have b3:bd 4020 (p x.b-p x.a-x.x):=aBm b1 bx
 have d4:Dv T (q x.b-q x.a-x.y):=oN d2 (by rw[e3];exact up _)
 have b4:bd 4020 (q x.b-q x.a-x.y):=aBm b2 by1
 have d5:=sH d3 d3
 have b5:bd 16160400 _:=oM b3 b3
 have d6:=sH d4 d4
 have b6:bd 16160400 _:=oM b4 b4
 have d7:=lF d5 d6
 have b7:bd 32320800 _:=aDp b5 b6
 have ew:eP p q x=x.w*sqQ (p x.b-p x.a-x.x) (q x.b-q x.a-x.y):=rfl
 have wp:=l1.sc.1
 have bw:bd 9 x.w:=by
  have e9:((9:Nat):Q)=9:=rfl
  unfold bd;rw[e9];grind
 have b8:bd 290887200 (eP p q x):=by
  rw[ew];exact oM bw b7
 exact⟨dP T0 d1 b1 (by omega) (by omega) t6,dP T0 d3 b3 (by omega) (by omega) t6,dP TT0 d5 b5 (by omega) (by omega) tt6,dP T0 d2 b2 (by omega) (by omega) t6,dP T0 d4 b4 (by omega) (by omega) t6,dP TT0 d6 b6 (by omega) (by omega) tt6,
  dP TT0 d7 b7 (by omega) (by omega) tt6,de,aRC p q wp,b8.2,dP TT0 de b8 (by omega) (by omega) tt6⟩
theorem vpt {u:Int}(h1:bH (p u))(h2:bH (q u)):lL (ptQ p q u)=some true:=by
 have e1:(ptQ p q u).fX=ofQ (p u):=rfl
 have e2:(ptQ p q u).fY=ofQ (q u):=rfl
 unfold lL
 rw[e1,e2,aOH h1]
 simp only[aTI,aT3]
 rw[aOH h2]
 rfl
theorem LkI.valid (h:LkI x):x.fit/\eZ x.toL=some true:=by
 have kf:x.fit:=aGT (D:=1) (X:=20) (by omega) (by decide) h.lk.1 (by omega) (by omega) (by have:=h.lk.2.2;grind)
 have kv:ValidL x.toL:=(aEp kf).2 ⟨by have:=h.1;omega,by have:=h.1;omega,h.1.2.1,h.lk.1.sc.1⟩
 refine⟨kf,?_⟩
 rw[(gO x.toL (by have:=kv.sz;omega)).2,aTN kv]
theorem aQQ (hx:LkI x)(hp:aCN T 2000 p)(hq:aCN T 2000 q)(t:T<=PP ^ 2):pI x.toL (ptQ p q x.a) (ptQ p q x.b)=some (ofQ (eP p q x)):=by
 obtain⟨f1,f2,f3,f4,f5,f6,f7,_,_,_,f8⟩:=aEe hx hp hq t
 obtain⟨⟨fw,fx,fy⟩,hv⟩:=hx.valid
 have t6:T<=PP ^ 6:=iK t (by omega)
 have fp:∀ u,bH (p u):=fun u=>dP hp.1 (hp.2 u).1 (hp.2 u).2 (by omega) (by omega) t6
 have fq:∀ u,bH (q u):=fun u=>dP hq.1 (hq.2 u).1 (hq.2 u).2 (by omega) (by omega) t6
 have px:∀ u,(ptQ p q u).fX=ofQ (p u):=fun _=>rfl
 have py:∀ u,(ptQ p q u).fY=ofQ (q u):=fun _=>rfl
 have ew:x.toL.fWeight=ofQ x.w:=rfl
 have ex:x.toL.fDX=ofQ x.x:=rfl
 have ey:x.toL.fDY=ofQ x.y:=rfl
 unfold pI
 rw[hv]
 simp only[aTI,aT3]
 rw[vpt (fp _) (fq _)]
 simp only[aTI,aT3]
 rw[vpt (fp _) (fq _)]
 simp only[aTI,aUL,aTP,aT9]
 rw[px,px,py,py,ew,ex,ey,aA2 (fp _) (fp _) f1]
 simp only[aTI]
 rw[aA2 f1 fx f2]
 simp only[aTI]
 rw[aA2 (fq _) (fq _) f4]
 simp only[aTI]
 rw[aA2 f4 fy f5]
 simp only[aTI]
 have sq:=(aSX (hU f2) (hU f5)).2.1
 unfold sqR at sq
 rw[aFB f2 f2 f3,aFB f5 f5 f6,aHo f3 f6 f7]at sq
 rw[sq]
 simp only[aTI]
 have mm:bK (ofQ x.w) (ofQ (sqQ (p x.b-p x.a-x.x) (q x.b-q x.a-x.y)))=some (ofQ (eP p q x)):=xA fw f7 f8
 unfold sqQ at mm
 rw[mm]
 rfl
end
theorem aOa {f:QL->Q}:∀ {l:List QL},(∀ x∈l,0<=f x/\f x<=((290887200:Nat):Q))->0<=sm f l/\sm f l<=((290887200*l.length:Nat):Q)
 | [],_=>by simp[sm]
 | x::l,h=>by
  obtain⟨a,b⟩:=h x (by simp)
  obtain⟨c,d⟩:=aOa (f:=f) (l:=l) fun y hy=>h y (by simp[hy])
  have e:290887200*(x::l).length=290887200+290887200*l.length:=by rw[aUh];omega
  rw[e,sm,aWI]
  constructor <;> grind
theorem aOc {T:Nat}{f:QL->Q}:∀ {l:List QL},(∀ x∈l,Dv T (f x))->Dv T (sm f l)
 | [],_=>⟨0,by simp[sm]⟩
 | x::l,h=>lF (h x (by simp)) (aOc fun y hy=>h y (by simp[hy]))
section
variable {l:List QL}{o:List Int}
theorem Tie.total (h:Tie l o):nI (l.map QL.toL) (vY (mE (aE l o o [])).toNat (aE l o o []))=some (ofQ (sn (fun n=>n.enQ) (aE l o o [])),true):=by
 have hl:=h.len
 have nb:=h.netB
 obtain⟨T,b1,sx,sy⟩:=aDz _ 0 nb.nb
 have t2:=aTY b1 (aLz (k:=0) (n:=(aE l o o []).length) (by have:=nb.len;omega))
 have bl:=nb.len
 have hp:aCN T 2000 (sol (·.x) (aE l o o [])):=⟨sx.1,fun u=>⟨(sx.2 u).1,xT (sx.2 u).2 (by omega)⟩⟩
 have hq:aCN T 2000 (sol (·.y) (aE l o o [])):=⟨sy.1,fun u=>⟨(sy.2 u).1,xT (sy.2 u).2 (by omega)⟩⟩
 obtain⟨t1,g0,g9,t4⟩:=nb.top
 have ml:=yL (mE (aE l o o [])).toNat (aE l o o [])
 have tt6:T*T<=PP ^ 6:=iK (a:=4) (by
  have:=aUd t2 t2
  rw[<- Nat.pow_add]at this;exact this) (by omega)
 have part:∀ {a b:List QL},l=a++b->bH (sm (eP (sol (·.x) (aE l o o [])) (sol (·.y) (aE l o o []))) a):=fun {a b} e=>by
  have hin:∀ x∈a,x∈l:=fun x hx=>by rw[e];simp[hx]
  have d:=aOc (T:=T*T) (l:=a) (f:=eP (sol (·.x) (aE l o o [])) (sol (·.y) (aE l o o []))) fun x hx=>(aEe (h.lk x (hin x hx)) hp hq t2).2.2.2.2.2.2.2.1
  obtain⟨c1,c2⟩:=aOa (l:=a) (f:=eP (sol (·.x) (aE l o o [])) (sol (·.y) (aE l o o []))) fun x hx=>by
   obtain⟨_,_,_,_,_,_,_,_,p1,p2,_⟩:=aEe (h.lk x (hin x hx)) hp hq t2
   exact⟨p1,p2⟩
  have al:a.length<=8:=by rw[e,aT4]at hl;omega
  refine dP (B:=290887200*8) (aUq hp.1 hp.1) d ?_ (by omega) (by omega) tt6
  have:=aBS (m:=290887200*a.length) (n:=290887200*8) (by omega)
  have n0:=xN (290887200*8)
  unfold bd
  constructor <;> grind
 have main:∀ (b a:List QL),l=a++b->lp (jS (l.map QL.toL) (vY (mE (aE l o o [])).toNat (aE l o o []))) ((a.length:Int),ofQ (sm (eP (sol (·.x) (aE l o o [])) (sol (·.y) (aE l o o []))) a))=some (.inl (ofQ (sm (eP (sol (·.x) (aE l o o [])) (sol (·.y) (aE l o o []))) l))):=by
  intro b
  induction b with
  | nil =>
   intro a e
   rw[aUJ]at e
   have el:(l.map QL.toL).length=a.length:=by rw[aTZ,e]
   refine aJ ?_
   unfold jS
   simp only[]
   rw[aTJ (by omega),<- e]
  | cons x b ih =>
   intro a e
   have el:(l.map QL.toL).length=a.length+1+b.length:=by rw[aTZ,e];simp;omega
   have el8:(l.map QL.toL).length<=8:=by rw[aTZ];exact hl
   have hx:x∈l:=by rw[e];simp
   have e2:l=(a++[x])++b:=by rw[e];simp
   have hi:=h.lk x hx
   have fa:=part e
   have fb:=part e2
   have fe:=(aEe hi hp hq t2).2.2.2.2.2.2.2.2.2.2
   have eL:sm (eP (sol (·.x) (aE l o o [])) (sol (·.y) (aE l o o []))) (a++[x])=sm (eP (sol (·.x) (aE l o o [])) (sol (·.y) (aE l o o []))) a+eP (sol (·.x) (aE l o o [])) (sol (·.y) (aE l o o [])) x:=by
    rw[mV];simp only[sm];grind
   rw[eL]at fb
   have hg:idx (l.map QL.toL) (a.length:Int)=some x.toL:=by
    rw[hY,List.getElem?_map]
    have:l[a.length]?=some x:=by
     have:=congrArg (fun z:List QL=>z[a.length]?) e
     simpa using this
    rw[this];rfl
   have inN:∀ u,(u=x.a\/u=x.b)->0<=u/\u<=(((mE (aE l o o [])).toNat:Nat):Int)/\(u=0\/∃ c∈aE l o o [],c.node=u):=fun u hu=>by
    have h1:=hi.1
    by_cases c:u=0
    · exact⟨by omega,by omega,.inl c⟩
    · have hm:u∈o:=(h.mem u).2 ⟨by omega,x,hx,by rcases hu with rfl | rfl <;> simp⟩
      obtain⟨c0,hc0,ec0⟩:=yD (l:=l) hm
      have:=t4 c0 hc0
      exact⟨by omega,by omega,.inr ⟨c0,hc0,ec0⟩⟩
   obtain⟨a1,a2,a3⟩:=inN x.a (.inl rfl)
   obtain⟨b1,b2,b3⟩:=inN x.b (.inr rfl)
   have ga:=aGE (G:=(mE (aE l o o [])).toNat) a1 a2 a3
   have gb:=aGE (G:=(mE (aE l o o [])).toNat) b1 b2 b3
   clear a3 b3
   have ia:idx (vY (mE (aE l o o [])).toNat (aE l o o [])) x.a=some (ptQ (sol (·.x) (aE l o o [])) (sol (·.y) (aE l o o [])) x.a):=by unfold idx;rw[aTK a1];exact ga
   have ib:idx (vY (mE (aE l o o [])).toNat (aE l o o [])) x.b=some (ptQ (sol (·.x) (aE l o o [])) (sol (·.y) (aE l o o [])) x.b):=by unfold idx;rw[aTK b1];exact gb
   refine(aS ?_).trans (ih (a++[x]) e2)
   have hpl:(((a++[x]).length:Nat):Int)=(a.length:Int)+1:=by simp
   have fA:x.toL.fA=x.a:=rfl
   have fB:x.toL.fB=x.b:=rfl
   unfold jS
   simp only[]
   rw[aTK (by omega),hg]
   simp only[aTI]
   rw[fA,fB,aTJ (by omega),aTJ (by omega),aTJ (by omega),aTL (by omega)]
   simp only[aTI,aTP,aT9]
   rw[ia]
   simp only[aTI]
   rw[ib]
   simp only[aTI]
   rw[aQQ hi hp hq t2]
   simp only[aTI]
   rw[xB fa fe fb]
   simp only[aTI]
   rw[wi (n:=(a.length:Int)+1) (by omega),hpl,eL]
 have m:=main l [] rfl
 have z:sm (eP (sol (·.x) (aE l o o [])) (sol (·.y) (aE l o o []))) []=0:=rfl
 rw[z,show((([]:List QL).length:Nat):Int)=0 from rfl]at m
 unfold nI
 rw[dJ 0 (by omega),aAe]
 simp only[aTI]
 rw[m]
 simp only[aTI]
 rw[aG0 (part (b:=[]) (by simp)),aRl h]
 rfl
end
theorem aSa (code:List Int)(_:okL (okI .u8) code):zY code=some true:=by
 unfold zY
 by_cases big:(1048576:Int)<(code.length:Int)
 · rw[aTK big]
 rw[aTJ big]
 obtain⟨n,l,o,o2,S,_,e1,e2,e3,hl,hn,ht,ht2,e,ej⟩:=aSk code (by omega)
 have hT:=ht2.isTree
 have hz:=ht2.tsz
 have sz:=ht2.sz
 have ho2:=ht2.base.len
 have j1:=ht2.base.join.1
 rw[j1]at ej
 have eS:S=(jn l).map QL.toL:=by
  injection ej with ej
  injection ej with ej _
  exact ej.symm
 subst eS
 rw[e1];simp only[aTI]
 rw[e2];simp only[aTI]
 rw[e3];simp only[aTI]
 have bq:=(aJz (l.map QL.toL) o2 (by omega) (by omega)).2
 rw[ht2.build]at bq
 rw[bq]
 simp only[aTI,pkT]
 have ew:(⟨(aE l o2 o2 []).map NQ.toN⟩:Tree)=mD l o2:=rfl
 rw[ew,aQn ht2]
 simp only[aTI]
 rw[ht2.dense]
 simp only[aTI]
 rw[ht2.total]
 simp only[aTI,aT3]
 rw[aQc _ (by omega),aTN hT]
 simp only[aTI,aT3]
 obtain⟨z1,z2⟩:=aTa ht2
 rw[aOf _ z1 z2]
 simp only[aTI,aT3]
 rw[aPt ht2]
 simp only[aTI]
 have ff:=aF0 (pre:=o2) (rem:=[]) ht2 (by simp)
 have:=mL (hU ff)
 rw[dD _ _ (by omega),aTN rfl]
 rfl
end Go.Ev
