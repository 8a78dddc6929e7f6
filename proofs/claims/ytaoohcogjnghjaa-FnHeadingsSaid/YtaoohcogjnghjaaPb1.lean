/- Parts PG1, PG2, PG3, PG4, P1, P2, P5, P3, P6, P7, P8, P9, PM, P10, PG5, PG6, PG7, PG8. -/
import Derived.Test.YtaoohcogjnghjaaPa1
import Derived.Test.YtaoohcogjnghjaaLd
set_option linter.all false
/- The cursor and what is drawn from it. -/
namespace Go.Ev
open IntKind
set_option linter.all false
theorem pP (x:Int):0≤iA .i64 x 255∧iA .i64 x 255≤255:=by
  unfold iA
  have h:(BitVec.ofInt (IntKind.bits .i64) x &&& BitVec.ofInt (IntKind.bits .i64) 255).toNat≤255:=by
    rw [BitVec.toNat_and]
    exact Nat.le_trans Nat.and_le_right (by decide)
  rw [wi (by omega)]
  omega
def gB (c:l01Cur):Prop:=c.fb.length≤1048576∧0≤c.fi∧c.fi≤1048577
theorem yM (c:l01Cur) (h:gB c):∃ r,bV c=some r∧(0≤r.1∧r.1≤255)∧gB r.2∧r.2.fb=c.fb:=by
  obtain ⟨h1,h2,h3⟩:=h
  unfold bV
  simp only [aR]
  by_cases hc:c.fi < (c.fb.length:Int)
  · rw [if_pos hc]
    have:=cZ (l:=c.fb) (k:=c.fi.toNat) (by omega)
    rw [show ((c.fi.toNat:Nat):Int)=c.fi by omega] at this
    rw [this]
    simp only [Option.bind_some]
    refine ⟨_,rfl,pP _,⟨h1,?_,?_⟩,rfl⟩
    · simp only [];rw [wi (by omega)];omega
    · simp only [];rw [wi (by omega)];omega
  · rw [if_neg hc]
    exact ⟨_,rfl,pP _,⟨h1,h2,h3⟩,rfl⟩
theorem bW (c:l01Cur) (n:Int) (h:gB c) (hn:1≤n∧n≤256):∃ r,aC c n=some r∧(0≤r.1∧r.1 < n)∧gB r.2∧r.2.fb=c.fb:=by
  unfold aC
  rw [if_neg (by omega),if_pos (by omega)]
  obtain ⟨r,e,g1,g2,g3⟩:=yM c h
  rw [show (l01Cur.mk c.fb c.fi c.fh)=c from rfl,e]
  simp only [Option.bind_some]
  rw [aZ (by omega)]
  refine ⟨_,rfl,⟨Int.tmod_nonneg _ g1.1,Int.tmod_lt_of_pos _ (by omega)⟩,?_,rfl⟩
  unfold gB at g2 h ⊢
  simp only []
  exact ⟨h.1,g2.2⟩
theorem zO (code:List Int) (h:code.length≤1048576):∃ c,gI code=some c∧gB c∧c.fb=code:=by
  unfold gI
  simp only [aR]
  have main:∀ (m k:Nat) (v:Int),m+k=code.length→∃ d,lp (dG code) (v,(k:Int))=some d:=by
    intro m
    induction m with
    | zero =>
      intro k v hk
      exact ⟨v,dE (by unfold dG;simp only [];rw [if_neg (by omega)];rfl)⟩
    | succ m ih =>
      intro k v hk
      have hlt:k < code.length:=by omega
      by_cases c:(k:Int) < 4000
      · obtain ⟨d,e⟩:=ih (k+1) (iA .i64 (i64.wrap (i64.wrap (i64.wrap (v*59)+i64.wrap code[k])+7)) 1073741823) (by omega)
        refine ⟨d,?_⟩
        rw [fQ (s':=(iA .i64 (i64.wrap (i64.wrap (i64.wrap (v*59)+i64.wrap code[k])+7)) 1073741823,((k+1:Nat):Int))),e]
        unfold dG
        simp only []
        rw [if_pos (by omega),cZ hlt]
        have w:i64.wrap ((k:Int)+1)=((k+1:Nat):Int):=by rw [wi (by omega)];omega
        simp only [Option.bind_some,decide_eq_true c,if_true,aR,w]
      · refine ⟨v,dE ?_⟩
        unfold dG
        simp only []
        rw [if_pos (by omega)]
        simp only [Option.bind_some,decide_eq_false c,Bool.false_eq_true,if_false]
  obtain ⟨d,e⟩:=main code.length 0 (i64.wrap (1951+(code.length:Int))) (by omega)
  rw [show ((0:Nat):Int)=0 from rfl] at e
  rw [e]
  exact ⟨_,rfl,⟨h,by simp,by simp⟩,rfl⟩
end Go.Ev
/- Poses that are small; digits. -/
namespace Go.Ev
set_option linter.all false
def smP (B:Int) (p:Pose):Prop:=(0≤p.fTurn∧p.fTurn≤3)∧(-B≤p.fX∧p.fX≤B)∧(-B≤p.fY∧p.fY≤B)
theorem smP.up {B C:Int} {p:Pose} (h:smP B p) (hc:B≤C):smP C p:=by
  obtain ⟨h1,h2,h3⟩:=h
  exact ⟨h1,by omega,by omega⟩
theorem vps {B:Int} {p:Pose} (h:smP B p) (hb:B≤1000000):aM p=some true:=by
  obtain ⟨h1,h2,h3⟩:=h
  unfold aM bP
  rw [if_pos (by omega),decide_eq_true (by omega)]
  simp only [Option.bind_some,if_true]
  rw [if_pos (by omega),decide_eq_true (by omega)]
  simp only [Option.bind_some,if_true]
  rw [if_pos (by omega),decide_eq_true (by omega)]
  rfl
theorem xG (x y t B:Int) (ht:0≤t∧t≤3) (hx:-B≤x∧x≤B) (hy:-B≤y∧y≤B) (hb:B≤1000000):∃ r,bX x y t=some r∧(-B≤r.1∧r.1≤B)∧(-B≤r.2∧r.2≤B):=by
  unfold bX
  rw [vps (p:=⟨t,x,y⟩) ⟨ht,hx,hy⟩ hb]
  simp only [Option.bind_some,if_true]
  have main:∀ (m:Nat) (u v i:Int),(m:Int)+i=t→0≤i→(-B≤u∧u≤B)→(-B≤v∧v≤B)→∃ r,lp (bZ t) (u,v,i)=some r∧(-B≤r.1∧r.1≤B)∧(-B≤r.2∧r.2≤B):=by
    intro m
    induction m with
    | zero =>
      intro u v i hi _ hu hv
      exact ⟨(u,v),dE (by unfold bZ;simp only [];rw [if_neg (by omega)]),hu,hv⟩
    | succ m ih =>
      intro u v i hi h0 hu hv
      obtain ⟨r,e,g1,g2⟩:=ih (0 - v) u (i+1) (by omega) (by omega) (by omega) hu
      refine ⟨r,?_,g1,g2⟩
      rw [fQ (s':=(0 - v,u,i+1)),e]
      unfold bZ
      simp only []
      rw [if_pos (by omega),wi (by omega),wi (by omega)]
  obtain ⟨r,e,g1,g2⟩:=main t.toNat x y 0 (by omega) (by omega) hx hy
  rw [e]
  exact ⟨r,rfl,g1,g2⟩
theorem sI {p q:Pose} {B C:Int} (hp:smP B p) (hq:smP C q) (h:B+C≤1000000) (hb:0≤B) (hc:0≤C):∃ r,bC p q=some (r,true)∧smP (B+C) r∧r.fTurn=(p.fTurn+q.fTurn).tmod 4:=by
  obtain ⟨p1,p2,p3⟩:=hp
  obtain ⟨q1,q2,q3⟩:=hq
  obtain ⟨r,e,g1,g2⟩:=xG q.fX q.fY p.fTurn C p1 q2 q3 (by omega)
  unfold bC
  rw [vps (p:=p) ⟨p1,p2,p3⟩ (by omega),vps (p:=q) ⟨q1,q2,q3⟩ (by omega)]
  simp only [Option.bind_some,if_true,Bool.not_true,Bool.false_eq_true,if_false,e,aR]
  have t1:=Int.tmod_nonneg 4 (show 0≤p.fTurn+q.fTurn by omega)
  have t2:=Int.tmod_lt_of_pos (p.fTurn+q.fTurn) (show (0:Int) < 4 by omega)
  rw [wi (n:=p.fTurn+q.fTurn) (by omega),wi (n:=p.fX+r.1) (by omega),wi (n:=p.fY+r.2) (by omega)]
  have s:smP (B+C) ⟨(p.fTurn+q.fTurn).tmod 4,p.fX+r.1,p.fY+r.2⟩:=⟨⟨t1,by simp only [];omega⟩,by simp only [];omega,by simp only [];omega⟩
  rw [vps s h]
  simp only [Option.bind_some,if_true]
  exact ⟨_,rfl,s,rfl⟩
theorem zR {p:Pose} {B:Int} (hp:smP B p) (h:B≤1000000):∃ r,cS p=some r∧smP B r∧r.fTurn=(4 - p.fTurn).tmod 4:=by
  obtain ⟨p1,p2,p3⟩:=hp
  have t1:=Int.tmod_nonneg 4 (show 0≤4 - p.fTurn by omega)
  have t2:=Int.tmod_lt_of_pos (4 - p.fTurn) (show (0:Int) < 4 by omega)
  obtain ⟨r,e,g1,g2⟩:=xG (0 - p.fX) (0 - p.fY) ((4 - p.fTurn).tmod 4) B ⟨t1,by omega⟩ (by omega) (by omega) h
  unfold cS
  rw [vps (p:=p) ⟨p1,p2,p3⟩ h]
  simp only [Option.bind_some,if_true,aR]
  rw [wi (n:=4 - p.fTurn) (by omega),wi (n:=0 - p.fX) (by omega),wi (n:=0 - p.fY) (by omega),e]
  exact ⟨_,rfl,⟨⟨t1,by simp only [];omega⟩,g1,g2⟩,rfl⟩
theorem yN {p q:Pose} {B:Int} (hp:smP B p) (hq:smP B q) (h:B+B≤1000000) (hb:0≤B):∃ r,fL p q=some r∧smP (B+B) r:=by
  obtain ⟨i,e1,i1,_⟩:=zR hp (by omega)
  obtain ⟨r,e2,r1,_⟩:=sI i1 hq h hb hb
  unfold fL eR
  rw [e1]
  simp only [Option.bind_some,e2]
  exact ⟨r,rfl,r1⟩
def dg (k:Int):ByteArray:=jR (48+k)
theorem vL (b:ByteArray):b++(⟨#[]⟩:ByteArray)=b:=by
  apply ByteArray.ext
  simp
theorem aAz {n:Int} (h:0≤n∧n≤255):IntKind.u8.wrap n=n:=by
  show (n % 256:Int)=n
  omega
theorem rA (k:Int) (h:0≤k∧k≤9):cC k=some (dg k):=by
  show eQ (dI 63) k=_
  unfold eQ
  rw [if_neg (by omega),dE (r:=(k,(⟨#[]⟩:ByteArray))) (by unfold fK;simp only [];rw [if_neg (by omega)])]
  simp only [Option.bind_some,aR]
  rw [wi (by omega),aAz (by omega),aZ (by rw [show (jR (48+k)).size=1 from rfl];decide)]
  simp only [Option.bind_some]
  rw [vL]
  rfl
theorem tM (k:Int):(dg k).size=1:=rfl
end Go.Ev
/- The factor lists that are drawn. -/
namespace Go.Ev
set_option linter.all false
def pN (k:Int):ByteArray:=(⟨#[112]⟩:ByteArray)++dg k
def mN (k:Int):ByteArray:=(⟨#[109]⟩:ByteArray)++dg k
def pS (j:Nat) (f:Factor):Prop :=
  f.fId=(j:Int)+1∧(1≤f.fWeight∧f.fWeight≤9)∧smP 20 f.fPose ∧
    (if j=0 then f.fKind=1∧f.fFrom=ByteArray.empty∧f.fTo=pN 0 else f.fKind=2∧f.fFrom=pN ((j:Int) - 1)∧f.fTo=pN j)
def sW (n:Int) (j:Nat) (f:Factor):Prop :=
  f.fId=(j:Int)+1∧(1≤f.fWeight∧f.fWeight≤9)∧smP 1000 f.fPose∧∃ i,(0≤i∧i≤n)∧f.fFrom=pN i ∧
    ((f.fKind=4∧∃ k,(0≤k∧k≤n)∧k≠i∧f.fTo=pN k)∨(f.fKind=3∧f.fPose.fTurn=0∧∃ b,(0≤b∧b≤1)∧f.fTo=mN b))
def Odo (l:List Factor):Prop:=∀ j (h:j < l.length),pS j l[j]
def GenL (n:Int) (l:List Factor):Prop:=(1≤n∧n≤4)∧n+1≤l.length∧l.length≤8∧∀ j (h:j < l.length),(((j:Int)≤n→pS j l[j])∧(n < (j:Int)→sW n j l[j]))
theorem bR {fb:List Int} {c:l01Cur} (h:gB c) (e:c.fb=fb):gB ⟨fb,c.fi,c.fh⟩:=by
  subst e;exact h
theorem pC (k:Int):((⟨#[112]⟩:ByteArray).size+(dg k).size≤9223372036854775807):=by
  rw [tM];decide
theorem zP (k:Int):((⟨#[109]⟩:ByteArray).size+(dg k).size≤9223372036854775807):=by
  rw [tM];decide
theorem aAC (c:l01Cur) (r:Int × l01Cur) (hr:0≤r.1∧r.1≤3):∀ (m k:Nat) (ps:List Pose) (l:List Factor) (fi fh:Int),(m:Int)+k=2+r.1→1≤k→gB ⟨c.fb,fi,fh⟩→ps.length=k→(∀ p ∈ ps,smP (20+9*k) p)→l.length=k→Odo l →
    ∃ ps' l' fi' fh',lp (cP c r) ((k:Int),ps,l,fi,fh)=some (ps',l',fi',fh')∧gB ⟨c.fb,fi',fh'⟩∧(ps'.length:Int)=2+r.1∧(∀ p ∈ ps',smP 100 p)∧(l'.length:Int)=2+r.1∧Odo l':=by
  intro m
  induction m with
  | zero =>
    intro k ps l fi fh hm hk hc hps hp hl ho
    refine ⟨ps,l,fi,fh,dE ?_,hc,by omega,fun p h=>(hp p h).up (by omega),by omega,ho⟩
    unfold cP
    simp only []
    rw [if_neg (by rw [wi (by omega)];omega)]
  | succ m ih =>
    intro k ps l fi fh hm hk hc hps hp hl ho
    obtain ⟨r1,a1,b1,c1,d1⟩:=bW ⟨c.fb,fi,fh⟩ 4 hc (by omega)
    obtain ⟨r2,a2,b2,c2,d2⟩:=bW ⟨c.fb,r1.2.fi,r1.2.fh⟩ 9 (bR c1 d1) (by omega)
    obtain ⟨r3,a3,b3,c3,d3⟩:=bW ⟨c.fb,r2.2.fi,r2.2.fh⟩ 5 (bR c2 d2) (by omega)
    obtain ⟨r4,a4,b4,c4,d4⟩:=bW ⟨c.fb,r3.2.fi,r3.2.fh⟩ 2 (bR c3 d3) (by omega)
    obtain ⟨r5,a5,b5,c5,d5⟩:=bW ⟨c.fb,r4.2.fi,r4.2.fh⟩ 9 (bR c4 d4) (by omega)
    have hlast:k - 1 < ps.length:=by omega
    have hq:=hp _ (List.getElem_mem hlast)
    have hst:smP 9 ⟨r1.1,r2.1,r3.1 - 2⟩:=⟨⟨b1.1,by simp only [];omega⟩,by simp only [];omega,by simp only [];omega⟩
    obtain ⟨p',e1,e2,_⟩:=sI hq hst (by omega) (by omega) (by omega)
    have ix:idx ps (IntKind.i64.wrap ((k:Int) - 1))=some ps[k - 1]:=by
      rw [wi (by omega),show (k:Int) - 1=((k - 1:Nat):Int) by omega,cZ hlast]
    have f1:=rA ((k:Int) - 1) (by omega)
    have f2:=rA (k:Int) (by omega)
    have st:cP c r ((k:Int),ps,l,fi,fh)=some (.inl (((k+1:Nat):Int),ps++[p'],l++[(⟨(k:Int)+1,2,pN ((k:Int) - 1),pN k,⟨r1.1,r2.1+r4.1,r3.1 - 2⟩,1+r5.1⟩:Factor)],r5.2.fi,r5.2.fh)):=by
      unfold cP
      simp only []
      rw [if_pos (by rw [wi (by omega)];omega),a1]
      simp only [Option.bind_some]
      rw [a2]
      simp only [Option.bind_some]
      rw [a3]
      simp only [Option.bind_some]
      rw [ix]
      simp only [Option.bind_some]
      rw [wi (n:=r3.1 - 2) (by omega)]
      unfold eR
      rw [e1]
      simp only [Option.bind_some]
      rw [aZ (by omega)]
      simp only [Option.bind_some,aR]
      rw [a4]
      simp only [Option.bind_some]
      rw [wi (n:=(k:Int) - 1) (by omega),f1]
      simp only [Option.bind_some]
      rw [aZ (pC _)]
      simp only [Option.bind_some,aR]
      rw [f2]
      simp only [Option.bind_some]
      rw [aZ (pC _)]
      simp only [Option.bind_some,aR]
      rw [a5]
      simp only [Option.bind_some]
      rw [aZ (by omega),wi (n:=(l.length:Int)+1) (by omega),wi (n:=r2.1+r4.1) (by omega),wi (n:=1+r5.1) (by omega),wi (n:=(k:Int)+1) (by omega),hl]
      rfl
    obtain ⟨ps',l',fi',fh',q1,q2,q3,q4,q5,q6⟩:=ih (k+1) (ps++[p']) (l++[(⟨(k:Int)+1,2,pN ((k:Int) - 1),pN k,⟨r1.1,r2.1+r4.1,r3.1 - 2⟩,1+r5.1⟩:Factor)]) r5.2.fi r5.2.fh (by omega) (by omega) (bR c5 d5) (by simp;omega) (fun p h=>by
      rcases List.mem_append.1 h with h | h
      · exact (hp p h).up (by omega)
      · rw [List.mem_singleton.1 h];exact e2.up (by omega)) (by simp;omega) (fun j hj=>by
      rw [List.length_append,List.length_singleton] at hj
      by_cases e:j < l.length
      · rw [List.getElem_append_left e];exact ho j e
      · have:j=l.length:=by omega
        subst this
        simp only [List.getElem_concat_length]
        refine ⟨by simp only [];omega,by simp only [];omega,⟨⟨b1.1,by simp only [];omega⟩,by simp only [];omega,by simp only [];omega⟩,?_⟩
        rw [if_neg (by omega)]
        exact ⟨rfl,by simp only [hl],by simp only [hl]⟩)
    exact ⟨ps',l',fi',fh',by rw [fQ st];exact q1,q2,q3,q4,q5,q6⟩
end Go.Ev
/- The factor lists that are drawn: loops and landmarks; the whole list. -/
namespace Go.Ev
open IntKind
set_option linter.all false
theorem uT (c:l01Cur) (n:Int) (h:gB c) (hn:1≤n∧n≤256):∃ r,cR c n=some r∧gB r.2∧r.2.fb=c.fb:=by
  obtain ⟨r,a,b,d,e⟩:=bW c n h hn
  unfold cR
  rw [show (l01Cur.mk c.fb c.fi c.fh)=c from rfl,a]
  exact ⟨_,rfl,bR d e,rfl⟩
theorem aAB (c:l01Cur) (r:Int × l01Cur) (d:List Pose × List Factor × Int × Int) (hr:0≤r.1∧r.1≤3) (hd:(d.1.length:Int)=2+r.1) (hp:∀ p ∈ d.1,smP 100 p):∀ (m:Nat) (l:List Factor) (fi fh:Int),gB ⟨c.fb,fi,fh⟩→l.length+m≤8→1+r.1+1≤l.length→(∀ j (h:j < l.length),((j:Int)≤1+r.1→pS j l[j])∧(1+r.1 < (j:Int)→sW (1+r.1) j l[j])) →
    ∃ l' fi' fh',lp (aX c r d) ((m:Int),l,fi,fh)=some (l',fi',fh')∧gB ⟨c.fb,fi',fh'⟩∧1+r.1+1≤l'.length∧l'.length≤8∧(∀ j (h:j < l'.length),((j:Int)≤1+r.1→pS j l'[j])∧(1+r.1 < (j:Int)→sW (1+r.1) j l'[j])):=by
  intro m
  induction m with
  | zero =>
    intro l fi fh hc hl h1 ho
    refine ⟨l,fi,fh,dE ?_,hc,h1,by omega,ho⟩
    unfold aX
    simp only []
    rw [if_neg (by omega)]
  | succ m ih =>
    intro l fi fh hc hl h1 ho
    have w1:i64.wrap (i64.wrap (1+r.1)+1)=1+r.1+1:=by rw [wi (n:=1+r.1) (by omega),wi (by omega)]
    obtain ⟨r1,a1,b1,c1,d1⟩:=bW ⟨c.fb,fi,fh⟩ (1+r.1+1) hc (by omega)
    obtain ⟨r2,a2,b2,c2,d2⟩:=bW ⟨c.fb,r1.2.fi,r1.2.fh⟩ (1+r.1+1) (bR c1 d1) (by omega)
    obtain ⟨r3,a3,b3,c3,d3⟩:=bW ⟨c.fb,r2.2.fi,r2.2.fh⟩ 9 (bR c2 d2) (by omega)
    have i1:r1.1.toNat < d.1.length:=by omega
    have i2:r2.1.toNat < d.1.length:=by omega
    have x1:idx d.1 r1.1=some d.1[r1.1.toNat]:=by
      have:=cZ i1;rwa [show ((r1.1.toNat:Nat):Int)=r1.1 by omega] at this
    have x2:idx d.1 r2.1=some d.1[r2.1.toNat]:=by
      have:=cZ i2;rwa [show ((r2.1.toNat:Nat):Int)=r2.1 by omega] at this
    obtain ⟨p,e1,e2⟩:=yN (hp _ (List.getElem_mem i1)) (hp _ (List.getElem_mem i2)) (by omega) (by omega)
    obtain ⟨e3,e4,e5⟩:=e2
    have f1:=rA r1.1 (by omega)
    have f2:=rA r2.1 (by omega)
    have wl:i64.wrap ((l.length:Int)+1)=(l.length:Int)+1:=wi (by omega)
    have ww:i64.wrap (1+r3.1)=1+r3.1:=wi (by omega)
    have fin:∀ (f:Factor) (u v:Int),gB ⟨c.fb,u,v⟩→sW (1+r.1) l.length f→aX c r d (((m+1:Nat):Int),l,fi,fh)=some (.inl ((m:Int),l++[f],u,v)) →
        ∃ l' fi' fh',lp (aX c r d) (((m+1:Nat):Int),l,fi,fh)=some (l',fi',fh')∧gB ⟨c.fb,fi',fh'⟩∧1+r.1+1≤l'.length∧l'.length≤8∧(∀ j (h:j < l'.length),((j:Int)≤1+r.1→pS j l'[j])∧(1+r.1 < (j:Int)→sW (1+r.1) j l'[j])):=by
      intro f u v hc' hf hs
      rw [fQ hs]
      refine ih (l++[f]) u v hc' (by simp;omega) (by simp;omega) (fun j hj=>?_)
      rw [List.length_append,List.length_singleton] at hj
      by_cases e:j < l.length
      · rw [List.getElem_append_left e];exact ho j e
      · have:j=l.length:=by omega
        subst this
        simp only [List.getElem_concat_length]
        exact ⟨fun h=>by omega,fun _=>hf⟩
    have start:∀ (X:Option (Factor × Int × Int)),(∀ f u v,X=some (f,u,v)→True)→True:=fun _ _=>trivial
    have wm:i64.wrap (((m+1:Nat):Int) - 1)=(m:Int):=by rw [wi (by omega)];omega
    by_cases hij:r1.1=r2.1
    · obtain ⟨r4,a4,b4,c4,d4⟩:=bW ⟨c.fb,r3.2.fi,r3.2.fh⟩ 9 (bR c3 d3) (by omega)
      obtain ⟨r5,a5,b5,c5,d5⟩:=bW ⟨c.fb,r4.2.fi,r4.2.fh⟩ 9 (bR c4 d4) (by omega)
      have t1:=Int.tmod_nonneg 2 b1.1
      have t2:=Int.tmod_lt_of_pos r1.1 (show (0:Int) < 2 by omega)
      have f3:=rA (r1.1.tmod 2) (by omega)
      refine fin ⟨(l.length:Int)+1,3,pN r1.1,mN (r1.1.tmod 2),⟨0,r4.1,r5.1⟩,1+r3.1⟩ r5.2.fi r5.2.fh (bR c5 d5) ⟨by simp only [],by simp only [];omega,⟨by simp only [];omega,by simp only [];omega,by simp only [];omega⟩,r1.1,by omega,rfl,.inr ⟨rfl,rfl,r1.1.tmod 2,by omega,rfl⟩⟩ ?_
      unfold aX
      simp only []
      rw [if_pos (by omega)]
      simp only [aR,w1]
      rw [a1]
      simp only [Option.bind_some]
      rw [a2]
      simp only [Option.bind_some,wl]
      rw [f1]
      simp only [Option.bind_some]
      rw [aZ (pC _)]
      simp only [Option.bind_some]
      rw [f2]
      simp only [Option.bind_some]
      rw [aZ (pC _)]
      simp only [Option.bind_some]
      rw [x1,x2]
      simp only [Option.bind_some]
      rw [e1]
      simp only [Option.bind_some]
      rw [a3]
      simp only [Option.bind_some]
      rw [if_pos hij,f3]
      simp only [Option.bind_some]
      rw [aZ (zP _)]
      simp only [Option.bind_some]
      rw [a4]
      simp only [Option.bind_some]
      rw [a5]
      simp only [Option.bind_some]
      rw [aZ (by omega),ww,wm]
      rfl
    · have head:∀ (f:Factor) (u v:Int),((cR (l01Cur.mk c.fb r3.2.fi r3.2.fh) 3).bind fun r104=>(if r104.1=true then (aC (l01Cur.mk c.fb r104.2.fi r104.2.fh) 9).bind fun r105=>some ((Factor.mk ((l.length:Int)+1) 4 (pN r1.1) (pN r2.1) (Pose.mk p.fTurn (i64.wrap (i64.wrap (p.fX+7)+r105.1)) p.fY) (1+r3.1)),r105.2.fi,r105.2.fh) else (cR (l01Cur.mk c.fb r104.2.fi r104.2.fh) 4).bind fun r107=>(if r107.1=true then (aC (l01Cur.mk c.fb r107.2.fi r107.2.fh) 4).bind fun r108=>some ((Factor.mk ((l.length:Int)+1) 4 (pN r1.1) (pN r2.1) (Pose.mk r108.1 p.fX p.fY) (1+r3.1)),r108.2.fi,r108.2.fh) else some ((Factor.mk ((l.length:Int)+1) 4 (pN r1.1) (pN r2.1) p (1+r3.1)),r107.2.fi,r107.2.fh))):Option (Factor × Int × Int))=some (f,u,v)→aX c r d (((m+1:Nat):Int),l,fi,fh)=some (.inl ((m:Int),l++[f],u,v)):=by
        intro f u v hX
        unfold aX
        simp only []
        rw [if_pos (by omega)]
        simp only [aR,w1]
        rw [a1]
        simp only [Option.bind_some]
        rw [a2]
        simp only [Option.bind_some,wl]
        rw [f1]
        simp only [Option.bind_some]
        rw [aZ (pC _)]
        simp only [Option.bind_some]
        rw [f2]
        simp only [Option.bind_some]
        rw [aZ (pC _)]
        simp only [Option.bind_some]
        rw [x1,x2]
        simp only [Option.bind_some]
        rw [e1]
        simp only [Option.bind_some]
        rw [a3]
        simp only [Option.bind_some]
        rw [if_neg hij,ww]
        have hX':=hX
        unfold pN at hX'
        rw [hX']
        simp only [Option.bind_some]
        rw [aZ (by omega),wm]
        rfl
      have ex:∀ (q:Pose),smP 1000 q→sW (1+r.1) l.length ⟨(l.length:Int)+1,4,pN r1.1,pN r2.1,q,1+r3.1⟩:=fun q hq=>⟨rfl,by simp only [];omega,hq,r1.1,by omega,rfl,.inl ⟨rfl,r2.1,by omega,fun e=>hij e.symm,rfl⟩⟩
      obtain ⟨o1,g1,g2,g3⟩:=uT ⟨c.fb,r3.2.fi,r3.2.fh⟩ 3 (bR c3 d3) (by omega)
      by_cases h3:o1.1=true
      · obtain ⟨r4,a4,b4,c4,d4⟩:=bW ⟨c.fb,o1.2.fi,o1.2.fh⟩ 9 (bR g2 g3) (by omega)
        refine fin _ r4.2.fi r4.2.fh (bR c4 d4) (ex ⟨p.fTurn,p.fX+7+r4.1,p.fY⟩ ⟨e3,by simp only [];omega,by simp only [];omega⟩) (head _ _ _ ?_)
        rw [g1]
        simp only [Option.bind_some]
        rw [if_pos h3,a4]
        simp only [Option.bind_some]
        rw [wi (n:=p.fX+7) (by omega),wi (n:=p.fX+7+r4.1) (by omega)]
      · obtain ⟨o2,k1,k2,k3⟩:=uT ⟨c.fb,o1.2.fi,o1.2.fh⟩ 4 (bR g2 g3) (by omega)
        by_cases h4:o2.1=true
        · obtain ⟨r4,a4,b4,c4,d4⟩:=bW ⟨c.fb,o2.2.fi,o2.2.fh⟩ 4 (bR k2 k3) (by omega)
          refine fin _ r4.2.fi r4.2.fh (bR c4 d4) (ex ⟨r4.1,p.fX,p.fY⟩ ⟨by simp only [];omega,by simp only [];omega,by simp only [];omega⟩) (head _ _ _ ?_)
          rw [g1]
          simp only [Option.bind_some]
          rw [if_neg h3,k1]
          simp only [Option.bind_some]
          rw [if_pos h4,a4]
          rfl
        · refine fin _ o2.2.fi o2.2.fh (bR k2 k3) (ex p ⟨e3,by omega,by omega⟩) (head _ _ _ ?_)
          rw [g1]
          simp only [Option.bind_some]
          rw [if_neg h3,k1]
          simp only [Option.bind_some]
          rw [if_neg h4]
theorem yL (c:l01Cur) (h:gB c):∃ r,fI c=some r∧smP 20 r.1∧gB r.2∧r.2.fb=c.fb:=by
  obtain ⟨r1,a1,b1,c1,d1⟩:=bW c 4 h (by omega)
  obtain ⟨r2,a2,b2,c2,d2⟩:=bW ⟨c.fb,r1.2.fi,r1.2.fh⟩ 41 (bR c1 d1) (by omega)
  obtain ⟨r3,a3,b3,c3,d3⟩:=bW ⟨c.fb,r2.2.fi,r2.2.fh⟩ 41 (bR c2 d2) (by omega)
  unfold fI
  rw [show (l01Cur.mk c.fb c.fi c.fh)=c from rfl,a1]
  simp only [Option.bind_some]
  rw [a2]
  simp only [Option.bind_some]
  rw [a3]
  simp only [Option.bind_some]
  rw [wi (n:=r2.1 - 20) (by omega),wi (n:=r3.1 - 20) (by omega)]
  exact ⟨_,rfl,⟨⟨b1.1,by simp only [];omega⟩,by simp only [];omega,by simp only [];omega⟩,bR c3 d3,rfl⟩
theorem yV (code:List Int) (h:code.length≤1048576):∃ l n,dH code=some l∧GenL n l:=by
  obtain ⟨c,e0,hc,_⟩:=zO code h
  obtain ⟨r1,a1,b1,c1,d1⟩:=yL c hc
  obtain ⟨r2,a2,b2,c2,d2⟩:=bW ⟨c.fb,r1.2.fi,r1.2.fh⟩ 9 (bR c1 d1) (by omega)
  obtain ⟨r3,a3,b3,c3,d3⟩:=bW ⟨c.fb,r2.2.fi,r2.2.fh⟩ 4 (bR c2 d2) (by omega)
  obtain ⟨ps,l,fi,fh,q1,q2,q3,q4,q5,q6⟩:=aAC c r3 (by omega) (1+r3.1).toNat 1 [r1.1] [⟨1,1,ByteArray.empty,pN 0,r1.1,1+r2.1⟩] r3.2.fi r3.2.fh (by omega) (by omega) (bR c3 d3) rfl (fun p hp=>by rw [List.mem_singleton.1 hp];exact b1.up (by omega)) rfl (fun j hj=>by
    have:j=0:=by simp at hj;exact hj
    subst this
    exact ⟨rfl,by simp only [List.getElem_cons_zero];omega,b1,by rw [if_pos rfl];exact ⟨rfl,rfl,rfl⟩⟩)
  obtain ⟨r4,a4,b4,c4,d4⟩:=bW ⟨c.fb,fi,fh⟩ 4 q2 (by omega)
  obtain ⟨l',fi',fh',w1,w2,w3,w4,w5⟩:=aAB c r3 (ps,l,fi,fh) (by omega) q3 q4 r4.1.toNat l r4.2.fi r4.2.fh (bR c4 d4) (by omega) (by omega) (fun j hj=>⟨fun _=>q6 j hj,fun h=>by omega⟩)
  refine ⟨l',1+r3.1,?_,by omega,w3,w4,w5⟩
  unfold dH gP
  rw [e0]
  simp only [Option.bind_some]
  rw [show (l01Cur.mk c.fb c.fi c.fh)=c from rfl,a1]
  simp only [Option.bind_some]
  rw [show idx [r1.1] 0=some r1.1 from rfl]
  simp only [Option.bind_some]
  rw [a2]
  simp only [Option.bind_some]
  rw [a3]
  simp only [Option.bind_some]
  rw [wi (n:=1+r2.1) (by omega)]
  rw [show ((1:Nat):Int)=1 from rfl] at q1
  rw [show (⟨#[112,48]⟩:ByteArray)=pN 0 from rfl,q1]
  simp only [Option.bind_some]
  rw [a4]
  simp only [Option.bind_some]
  rw [show r4.1=((r4.1.toNat:Nat):Int) by omega,w1]
  rfl
end Go.Ev
/- Plain laws of the helpers of the exact laws: sizes, copies, comparisons, marks. -/
namespace Go.Ev
set_option linter.all false
def oP (f:Factor):Prop:=f.fFrom.size≤9223372036854775807∧f.fTo.size≤9223372036854775807
end Go.Ev
/- Plain laws: names, valid factors, lists of factors. -/
namespace Go.Ev
set_option linter.all false
theorem mV (s:ByteArray) (k:Nat) (h:k < s.size):gN s (k:Int)=some ((s.data.toList.getD k 0).toNat:Int):=by
  unfold gN;rw [if_pos ⟨by omega,by omega⟩];simp
theorem qZ (l:List ByteArray) (s:ByteArray) (hl:l.length≤140737488351232):cI l s=some (oO l s):=by
  unfold cI
  obtain ⟨r,e,q⟩:=lS (step:=cW l s) l.length (fun r=>(r=.inl ()∧s ∉ l)∨(r=.inr true∧s ∈ l)) (fun k=>∀ i (hi:i < l.length),i < k→l[i]≠s) (by intro i _ h;omega)
    (fun k hk hj=>by
      unfold cW
      rw [if_pos (by omega),cZ hk]
      simp only [Option.bind_some]
      by_cases hy:l[k]=s
      · right;exact ⟨_,by rw [if_pos hy],.inr ⟨rfl,hy ▸ List.getElem_mem hk⟩⟩
      · left
        rw [if_neg hy,wi (by omega)]
        refine ⟨rfl,fun i hi h=>?_⟩
        by_cases e:i=k
        · subst e;exact hy
        · exact hj i hi (by omega))
    (fun hj=>by
      unfold cW
      rw [if_neg (by omega)]
      refine ⟨_,rfl,.inl ⟨rfl,fun hm=>?_⟩⟩
      obtain ⟨i,hi,e⟩:=List.getElem_of_mem hm
      exact hj i hi hi e)
  rw [e]
  rcases q with ⟨rfl,h⟩ | ⟨rfl,h⟩
  · rw [vC.2 h];rfl
  · rw [lE.2 h];rfl
def fU (ns:List ByteArray) (s:ByteArray):List ByteArray:=if s≠(⟨#[]⟩:ByteArray)∧oO ns s=false then ns++[s] else ns
theorem rK (ns:List ByteArray) (s:ByteArray):(fU ns s).length≤ns.length+1:=by unfold fU;split <;> simp
def aE (l:List Factor):List ByteArray:=l.foldl (fun ns f=>fU (fU ns f.fFrom) f.fTo) []
theorem dP (l:List Factor) (hl:l.length≤1048577):bK l=some (aE l):=by
  unfold bK
  have one:∀ (s:ByteArray) (ns:List ByteArray),ns.length≤4194305→((if s≠(⟨#[]⟩:ByteArray) then (cI ns s).bind fun r=>some (!r) else some false):Option Bool)=some (decide (s≠(⟨#[]⟩:ByteArray)∧oO ns s=false)):=by
    intro s ns hn
    rw [qZ _ _ (by omega)]
    by_cases h1:s=(⟨#[]⟩:ByteArray) <;> simp [h1]
  have add:∀ (s:ByteArray) (ns:List ByteArray),ns.length≤4194305→((if decide (s≠(⟨#[]⟩:ByteArray)∧oO ns s=false)=true then (chk ((ns.length+1)*16≤140737488355328)).bind fun _u=>(aS (ns++[s])).bind fun v=>some v else some ns):Option (List ByteArray))=some (fU ns s):=by
    intro s ns hn
    rw [aZ (by omega)]
    unfold fU
    by_cases h:s≠(⟨#[]⟩:ByteArray)∧oO ns s=false <;> simp [h,aS]
  have e:=iG (step:=dY l) l (fun k (t:List ByteArray)=>((k:Int),t)) (fun ns f=>fU (fU ns f.fFrom) f.fTo) (fun t=>t) (fun k t=>t.length≤2*k)
    (fun k t hk hi=>by
      have hl1:=rK t (l[k]).fFrom
      have hl2:=rK (fU t (l[k]).fFrom) (l[k]).fTo
      refine ⟨?_,by omega⟩
      unfold dY
      simp only []
      rw [if_pos (by omega),cZ hk]
      simp only [Option.bind_some]
      rw [one _ _ (by omega)]
      simp only [Option.bind_some]
      rw [add _ _ (by omega)]
      simp only [Option.bind_some]
      rw [one _ _ (by omega)]
      simp only [Option.bind_some]
      rw [wi (n:=(k:Int)+1) (by omega)]
      have:=add (l[k]).fTo (fU t (l[k]).fFrom) (by omega)
      by_cases h:decide ((l[k]).fTo≠(⟨#[]⟩:ByteArray)∧oO (fU t (l[k]).fFrom) (l[k]).fTo=false)=true
      · rw [if_pos h] at this ⊢
        rw [aZ (by omega)] at this ⊢
        simp only [Option.bind_some,aR] at this ⊢
        rw [Option.some.inj this];rfl
      · rw [if_neg h] at this ⊢
        rw [← Option.some.inj this];rfl)
    (fun t hi=>by unfold dY;simp only [];rw [if_neg (by omega)]) [] (by simp)
  rw [show ((0:Nat):Int)=0 from rfl] at e
  rw [e.1];rfl
end Go.Ev
/- Plain laws: names, valid factors, factor lists. -/
namespace Go.Ev
set_option linter.all false
section
variable {ρ:Type}
theorem nW {α:Type} {step:Int→Option (Int ⊕ (Unit ⊕ α))} (n:Nat) (bad:Nat→Bool) (x:α) (h1:∀ k:Nat,k < n→step (k:Int)=some (if bad k then .inr (.inr x) else .inl ((k+1:Nat):Int))) (h2:step (n:Int)=some (.inr (.inl ()))) :
    lp step 0=some (if (List.range n).any bad then .inr x else .inl ()):=by
  obtain ⟨r,e,q⟩:=lS (step:=step) n (fun r=>r=if (List.range n).any bad then .inr x else .inl ()) (fun k=>∀ i,i < k→bad i=false) (by intro i h;omega)
    (fun k hk hj=>by
      rw [h1 k hk]
      by_cases hb:bad k=true
      · right
        rw [if_pos hb]
        refine ⟨_,rfl,?_⟩
        rw [if_pos]
        exact List.any_eq_true.2 ⟨k,List.mem_range.2 hk,hb⟩
      · left
        rw [if_neg hb]
        refine ⟨rfl,fun i hi=>?_⟩
        by_cases e:i=k
        · subst e;exact Bool.eq_false_iff.2 hb
        · exact hj i (by omega))
    (fun hj=>by
      refine ⟨_,h2,?_⟩
      rw [if_neg]
      intro h
      obtain ⟨i,hi,hb⟩:=List.any_eq_true.1 h
      rw [hj i (List.mem_range.1 hi)] at hb
      exact Bool.noConfusion hb)
  rw [e,q]
end
def eW (p:Pose):Prop:=0≤p.fTurn∧p.fTurn≤3∧-1000000≤p.fX∧p.fX≤1000000∧-1000000≤p.fY∧p.fY≤1000000
instance (p:Pose):Decidable (eW p):=by unfold eW;infer_instance
theorem pK (x:Int):cV x=some (decide (-1000000≤x∧x≤1000000)):=by
  unfold cV
  by_cases h:-1000000≤x <;> simp [h]
theorem iP (p:Pose):aM p=some (decide (eW p)):=by
  unfold aM bP eW
  by_cases h1:0≤p.fTurn <;> by_cases h2:p.fTurn≤3 <;> by_cases h3:-1000000≤p.fX <;> by_cases h4:p.fX≤1000000 <;> by_cases h5:-1000000≤p.fY <;> simp [h1,h2,h3,h4,h5]
theorem kM (p:Pose):aT p=some (decide (eW p)):=by
  unfold aT eW
  simp only [pK]
  by_cases h1:0≤p.fTurn <;> by_cases h2:p.fTurn≤3 <;> by_cases h3:-1000000≤p.fX <;> by_cases h4:p.fX≤1000000 <;> by_cases h5:-1000000≤p.fY <;> simp [h1,h2,h3,h4,h5]
def sO (s:ByteArray) (k:Nat):Bool :=
  !(decide ((97:Int)≤((s.data.toList.getD k 0).toNat:Int)∧((s.data.toList.getD k 0).toNat:Int)≤122))&&(decide (k=0)||!(decide ((48:Int)≤((s.data.toList.getD k 0).toNat:Int)∧((s.data.toList.getD k 0).toNat:Int)≤57)))
def kF (s:ByteArray):Bool:=decide (1≤s.size∧s.size≤8)&&!((List.range s.size).any (sO s))
theorem nB (s:ByteArray) (h:s.size≤9223372036854775807):hC s=some (kF s):=by
  unfold hC
  rw [nW (step:=fJ s) s.size (sO s) false
    (fun k hk=>by
      unfold fJ
      rw [if_pos (by omega),mV s k hk,wi (by omega)]
      simp only [Option.bind_some]
      unfold sO
      generalize ((s.data.toList.getD k 0).toNat:Int)=b
      by_cases h1:97≤b <;> by_cases h2:b≤122 <;> by_cases h3:k=0 <;> by_cases h4:b < 48 <;> by_cases h5:57 < b <;> first | (exfalso;omega) | (have h6:(48≤b)=(¬b < 48):=by simp) ;(have h7:(b≤57)=(¬57 < b):=by simp) ;simp only [h6,h7] ;simp [h1,h2,h3,h4,h5])
    (by unfold fJ;rw [if_neg (by omega)])]
  unfold kF bP
  by_cases hb:(List.range s.size).any (sO s)=true
  · simp [hb]
  · simp only [Bool.not_eq_true] at hb
    simp only [hb]
    by_cases h1:(1:Int)≤s.size
    · have:1≤s.size:=by omega
      by_cases h2:s.size≤8 <;> simp [h1,h2,this] <;> omega
    · have:¬1≤s.size:=by omega
      simp [h1,this]
theorem oA (s:ByteArray) (h:s.size≤9223372036854775807):fG s=some (kF s):=by
  unfold fG
  rw [nW (step:=eK s) s.size (sO s) false
    (fun k hk=>by
      unfold eK
      rw [if_pos (by omega),mV s k hk,wi (by omega)]
      simp only [Option.bind_some]
      unfold sO
      generalize ((s.data.toList.getD k 0).toNat:Int)=b
      by_cases h1:97≤b <;> by_cases h2:b≤122 <;> by_cases h3:k=0 <;> by_cases h4:48≤b <;> by_cases h5:b≤57 <;> simp [h1,h2,h3,h4,h5] <;> omega)
    (by unfold eK;rw [if_neg (by omega)])]
  unfold kF
  by_cases hb:(List.range s.size).any (sO s)=true
  · by_cases h1:(s.size:Int) < 1 <;> simp [hb,h1]
  · simp only [Bool.not_eq_true] at hb
    simp only [hb]
    by_cases h1:(s.size:Int) < 1 <;> by_cases h2:(8:Int) < s.size <;> simp [h1,h2] <;> omega
def dW (c:Nat) (s:ByteArray):Bool:=kF s&&decide ((s.data.toList.getD 0 0).toNat=c)
theorem jG {c:Nat} {s:ByteArray} (h:dW c s=true):s≠(⟨#[]⟩:ByteArray):=by
  rintro rfl
  have h:=(Bool.and_eq_true _ _ ▸ h:_∧_).1
  unfold kF at h
  simp only [Bool.and_eq_true,decide_eq_true_eq] at h
  exact absurd h.1.1 (by decide)
theorem pF {s:ByteArray} (h:kF s=true):0 < s.size:=by
  unfold kF at h
  simp only [Bool.and_eq_true,decide_eq_true_eq] at h
  omega
theorem iR (s:ByteArray) (h:s.size≤9223372036854775807):cQ s=some (dW 112 s)∧bD s=some (dW 112 s):=by
  unfold cQ bD dW
  rw [nB s h,oA s h]
  by_cases hb:kF s=true
  · have e:=mV s 0 (pF hb)
    rw [show ((0:Nat):Int)=0 from rfl] at e
    simp only [Option.bind_some,hb,e,if_true,Bool.true_and]
    constructor <;> (congr 2;simp;omega)
  · simp [hb]
theorem jN (s:ByteArray) (h:s.size≤9223372036854775807):eU s=some (dW 109 s)∧bU s=some (dW 109 s):=by
  unfold eU bU dW
  rw [nB s h,oA s h]
  by_cases hb:kF s=true
  · have e:=mV s 0 (pF hb)
    rw [show ((0:Nat):Int)=0 from rfl] at e
    simp only [Option.bind_some,hb,e,if_true,Bool.true_and]
    constructor <;> (congr 2;simp;omega)
  · simp [hb]
def kH (f:Factor):Bool :=
  if f.fKind=1 then decide (f.fFrom=(⟨#[]⟩:ByteArray))&&dW 112 f.fTo
  else if f.fKind=2∨f.fKind=4 then dW 112 f.fFrom&&dW 112 f.fTo&&decide (f.fFrom≠f.fTo)
  else if f.fKind=3 then dW 112 f.fFrom&&dW 109 f.fTo&&decide (f.fPose.fTurn=0) else false
def eE (f:Factor):Bool:=decide (0≤f.fId∧f.fId≤99999∧eW f.fPose∧1≤f.fWeight∧f.fWeight≤9999)&&kH f
theorem uI (f:Factor) (h:oP f):gU f=some (eE f)∧cK f=some (eE f):=by
  obtain ⟨h1,h2⟩:=h
  unfold gU cK
  simp only [(iR _ h1).1,(iR _ h1).2,(iR _ h2).1,(iR _ h2).2,(jN _ h2).1,(jN _ h2).2,iP,kM,bP,Option.bind_some]
  have tail:∀ b1 b2 b3:Bool,((if f.fKind=1 then (if f.fFrom=(⟨#[]⟩:ByteArray) then some (dW 112 f.fTo) else some false) else ((if (f.fKind=2) then some (decide (f.fKind=2)) else some (decide (f.fKind=4))):Option Bool).bind (fun d9=>(if d9=true then (if dW 112 f.fFrom=true then (if dW 112 f.fTo=true then some (decide (f.fFrom≠f.fTo)) else some false) else some false) else (if (f.fKind=3) then (if dW 112 f.fFrom=true then (if dW 109 f.fTo=true then some (decide (f.fPose.fTurn=0)) else some false) else some false) else some false)))):Option Bool)=some (kH f):=by
    intro _ _ _
    unfold kH
    by_cases k1:f.fKind=1
    · rw [if_pos k1,if_pos k1];by_cases e:f.fFrom=(⟨#[]⟩:ByteArray) <;> simp [e]
    · rw [if_neg k1,if_neg k1]
      by_cases k2:f.fKind=2
      · simp only [k2,if_true,Option.bind_some,decide_true,true_or]
        cases dW 112 f.fFrom <;> cases dW 112 f.fTo <;> simp
      · by_cases k4:f.fKind=4
        · simp only [k4,if_true,Option.bind_some,decide_true,or_true]
          cases dW 112 f.fFrom <;> cases dW 112 f.fTo <;> simp
        · simp only [k2,k4,if_false,Option.bind_some,decide_false,or_self]
          by_cases k3:f.fKind=3
          · simp only [k3,if_true];cases dW 112 f.fFrom <;> cases dW 109 f.fTo <;> simp
          · simp [k3]
  have t:=tail true true true
  constructor
  · by_cases a:0≤f.fId∧f.fId≤99999∧eW f.fPose∧1≤f.fWeight∧f.fWeight≤9999
    · have e:eE f=kH f:=by unfold eE;rw [decide_eq_true a];rfl
      rw [e,← t]
      obtain ⟨a1,a2,a3,a4,a5⟩:=a
      simp [a1,a2,a3,a4,a5]
    · have e:eE f=false:=by unfold eE;rw [decide_eq_false a];rfl
      rw [e]
      by_cases a1:0≤f.fId <;> by_cases a2:f.fId≤99999 <;> by_cases a3:eW f.fPose <;> by_cases a4:1≤f.fWeight <;> by_cases a5:f.fWeight≤9999 <;> first | (exfalso;exact a ⟨a1,a2,a3,a4,a5⟩) | simp [a1,a2,a3,a4,a5]
  · by_cases a:0≤f.fId∧f.fId≤99999∧eW f.fPose∧1≤f.fWeight∧f.fWeight≤9999
    · have e:eE f=kH f:=by unfold eE;rw [decide_eq_true a];rfl
      rw [e,← t]
      obtain ⟨a1,a2,a3,a4,a5⟩:=a
      rw [if_neg (by omega),if_neg (by omega),decide_eq_true a3,if_pos rfl,if_neg (by omega)]
      simp only [Option.bind_some]
      rw [decide_eq_false (by omega)]
      simp
    · have e:eE f=false:=by unfold eE;rw [decide_eq_false a];rfl
      rw [e]
      by_cases a1:f.fId < 0
      · simp [a1]
      by_cases a2:99999 < f.fId
      · simp [a1,a2]
      by_cases a3:eW f.fPose
      · by_cases a4:f.fWeight < 1
        · simp [a1,a2,a3,a4]
        · by_cases a5:9999 < f.fWeight
          · simp [a1,a2,a3,a4,a5]
          · exfalso;exact a ⟨by omega,by omega,a3,by omega,by omega⟩
      · simp [a1,a2,a3]
end Go.Ev
/- Plain laws: marks of texts and of factors. -/
namespace Go.Ev
set_option linter.all false
end Go.Ev
/- Plain laws: lists of factors, indices of names. -/
namespace Go.Ev
set_option linter.all false
def sN (l:List Factor) (k:Nat):Bool:=match l[k]?,l[k - 1]? with
  | some y,some z=>!(eE y)||(decide (0 < k)&&decide (y.fId≤z.fId))
  | _,_=>false
def qF (l:List Factor):Bool:=decide (l.length≤40)&&!((List.range l.length).any (sN l))&&decide ((aE l).length < 10)
theorem mW (l:List Factor) (k:Nat) (hk:k < l.length):sN l k=(!(eE l[k])||(decide (0 < k)&&decide ((l[k]).fId≤(l[k - 1]'(by omega)).fId))):=by
  unfold sN
  rw [List.getElem?_eq_getElem hk,List.getElem?_eq_getElem (show k - 1 < l.length by omega)]
theorem tY (l:List Factor) (k:Nat) (hk:k < l.length) (hl:l.length≤4194304) (hv:∀ f ∈ l,oP f) (g:Option Bool) (hg:g=some (eE l[k])) :
    ((g.bind fun r9=>(if r9=true then (if 0 < (k:Int) then (idx l (IntKind.i64.wrap ((k:Int) - 1))).bind fun y10=>some (decide ((l[k]).fId≤y10.fId)) else some false) else some true):Option Bool).bind (fun d12=>(if d12=true then some (.inr (.inr false)) else some (.inl (IntKind.i64.wrap ((k:Int)+1)))):Bool→Option (Int ⊕ (Unit ⊕ Bool))))=some (if sN l k then .inr (.inr false) else .inl ((k+1:Nat):Int)):=by
  rw [hg,mW l k hk,wi (n:=(k:Int)+1) (by omega)]
  simp only [Option.bind_some]
  by_cases h1:eE l[k]=true
  · by_cases h2:0 < k
    · rw [wi (by omega),show (k:Int) - 1=((k - 1:Nat):Int) by omega,cZ (by omega)]
      have h2':(0:Int) < k:=by omega
      by_cases h3:(l[k]).fId≤(l[k - 1]'(by omega)).fId <;> simp [h1,h2,h3]
    · have h2':¬(0:Int) < k:=by omega
      simp [h1,h2]
  · simp [h1]
theorem kA (l:List Factor) (hl:l.length≤1048577) (hv:∀ f ∈ l,oP f):aW l=some (qF l):=by
  unfold aW
  rw [nW (step:=bN l) l.length (sN l) false
    (fun k hk=>by
      unfold bN
      rw [if_pos (by omega),cZ hk]
      simp only [Option.bind_some]
      exact tY l k hk (by omega) hv _ (uI _ (hv _ (List.getElem_mem hk))).2)
    (by unfold bN;rw [if_neg (by omega)])]
  unfold qF
  rw [dP l hl]
  by_cases h1:l.length≤40
  · have h1':¬(40:Int) < l.length:=by omega
    by_cases hb:(List.range l.length).any (sN l)=true
    · simp [hb,h1']
    · simp only [Bool.not_eq_true] at hb
      simp only [hb]
      simp [h1,h1'];omega
  · have:(40:Int) < l.length:=by omega
    simp [h1,this]
theorem nY {l:List Factor} (h:qF l=true):l.length≤40∧(aE l).length < 10∧(∀ k (hk:k < l.length),eE l[k]=true)∧∀ k (hk:k+1 < l.length),(l[k]).fId < (l[k+1]).fId:=by
  unfold qF at h
  simp only [Bool.and_eq_true,decide_eq_true_eq,Bool.not_eq_true',List.any_eq_false,List.mem_range,Bool.not_eq_true] at h
  obtain ⟨⟨h1,h2⟩,h3⟩:=h
  have hb:∀ k (hk:k < l.length),sN l k=false:=fun k hk=>by simpa using h2 k hk
  refine ⟨h1,h3,fun k hk=>?_,fun k hk=>?_⟩
  · have:=hb k hk
    rw [mW l k hk] at this
    simp only [Bool.or_eq_false_iff,Bool.not_eq_false'] at this
    exact this.1
  · have:=hb (k+1) hk
    rw [mW l (k+1) hk] at this
    simp only [Bool.or_eq_false_iff,Bool.and_eq_false_iff,decide_eq_false_iff_not] at this
    have:=this.2.resolve_left (by omega)
    have e:l[k+1 - 1]'(by omega)=l[k]:=rfl
    rw [e] at this;omega
def aK (ns:List ByteArray) (s:ByteArray):Int:=match ns.findIdx? (fun x=>decide (x=s)) with | some k=>k | none=>-1
theorem nP (ns:List ByteArray) (s:ByteArray) (h:ns.length≤4194304):aN ns s=some (aK ns s):=by
  unfold aN
  obtain ⟨r,e,q⟩:=lS (step:=cU ns s) ns.length (fun r=>match r with | .inl _=>aK ns s=-1 | .inr i=>aK ns s=i) (fun k=>∀ i (hi:i < ns.length),i < k→ns[i]≠s) (by intro i _ h;omega)
    (fun k hk hj=>by
      unfold cU
      rw [if_pos (by omega),cZ hk]
      simp only [Option.bind_some]
      by_cases hy:ns[k]=s
      · right
        refine ⟨_,by rw [if_pos hy],?_⟩
        simp only
        unfold aK
        rw [List.findIdx?_eq_some_iff_getElem.2 ⟨hk,by simpa using hy,fun j hjk=>by simpa using hj j (by omega) hjk⟩]
      · left
        rw [if_neg hy,wi (by omega)]
        refine ⟨rfl,fun i hi h=>?_⟩
        by_cases e:i=k
        · subst e;exact hy
        · exact hj i hi (by omega))
    (fun hj=>by
      unfold cU
      rw [if_neg (by omega)]
      refine ⟨_,rfl,?_⟩
      simp only
      unfold aK
      rw [List.findIdx?_eq_none_iff.2 (fun x hx=>by
        obtain ⟨i,hi,e⟩:=List.getElem_of_mem hx
        simpa [← e] using hj i hi hi)])
  rw [e]
  cases r with
  | inl u=>simp only [Option.bind_some];simp only at q;rw [q]
  | inr i=>simp only [Option.bind_some];simp only at q;rw [q]
theorem oM:hZ=aN:=rfl
theorem dS (ns:List ByteArray) (s:ByteArray):-1≤aK ns s∧aK ns s < ns.length:=by
  unfold aK
  split
  · rename_i k hk
    obtain ⟨h,_⟩:=List.findIdx?_eq_some_iff_getElem.1 hk
    omega
  · omega
theorem fN {ns:List ByteArray} {s:ByteArray} (h:s ∈ ns):0≤aK ns s:=by
  unfold aK
  split
  · omega
  · rename_i hk
    have:=List.findIdx?_eq_none_iff.1 hk s h
    simp at this
theorem oG {ns:List ByteArray} {s t:ByteArray} (h:t ∈ ns):t ∈ fU ns s:=by unfold fU;split <;> simp [h]
theorem pR {ns:List ByteArray} {s:ByteArray} (h:s≠(⟨#[]⟩:ByteArray)):s ∈ fU ns s:=by
  unfold fU
  split
  · simp
  · rename_i h'
    by_cases hm:oO ns s=true
    · exact lE.1 hm
    · exact absurd ⟨h,by simpa using hm⟩ h'
theorem nO (l:List Factor) (ns:List ByteArray) (s:ByteArray) (h:s ∈ ns):s ∈ l.foldl (fun ns f=>fU (fU ns f.fFrom) f.fTo) ns:=by
  induction l generalizing ns with
  | nil=>exact h
  | cons f r ih=>exact ih _ (oG (oG h))
theorem pE (l:List Factor) (ns:List ByteArray) (f:Factor) (hf:f ∈ l) :
    (f.fFrom≠(⟨#[]⟩:ByteArray)→f.fFrom ∈ l.foldl (fun ns f=>fU (fU ns f.fFrom) f.fTo) ns)∧(f.fTo≠(⟨#[]⟩:ByteArray)→f.fTo ∈ l.foldl (fun ns f=>fU (fU ns f.fFrom) f.fTo) ns):=by
  induction l generalizing ns with
  | nil=>cases hf
  | cons g r ih =>
    rcases List.mem_cons.1 hf with rfl | hf
    · exact ⟨fun h=>nO r _ _ (oG (pR h)),fun h=>nO r _ _ (pR h)⟩
    · exact ih _ hf
theorem rZ {l:List Factor} {f:Factor} (hf:f ∈ l) (h:f.fFrom≠(⟨#[]⟩:ByteArray)):f.fFrom ∈ aE l:=(pE l [] f hf).1 h
theorem qS {l:List Factor} {f:Factor} (hf:f ∈ l) (h:f.fTo≠(⟨#[]⟩:ByteArray)):f.fTo ∈ aE l:=(pE l [] f hf).2 h
theorem eO {f:Factor} (h:eE f=true):0≤f.fId∧f.fId≤99999∧eW f.fPose∧1≤f.fWeight∧f.fWeight≤9999∧f.fTo≠(⟨#[]⟩:ByteArray)∧(f.fKind=1∨f.fKind=2∨f.fKind=3∨f.fKind=4)∧(f.fKind=1→f.fFrom=(⟨#[]⟩:ByteArray))∧(f.fKind≠1→f.fFrom≠(⟨#[]⟩:ByteArray))∧(f.fKind=2∨f.fKind=4→f.fFrom≠f.fTo):=by
  unfold eE at h
  simp only [Bool.and_eq_true,decide_eq_true_eq] at h
  obtain ⟨⟨h1,h2,h3,h4,h5⟩,h6⟩:=h
  refine ⟨h1,h2,h3,h4,h5,?_⟩
  unfold kH at h6
  by_cases k1:f.fKind=1
  · rw [if_pos k1] at h6
    simp only [Bool.and_eq_true,decide_eq_true_eq] at h6
    exact ⟨jG h6.2,.inl k1,fun _=>h6.1,fun h=>absurd k1 h,fun h=>by omega⟩
  · rw [if_neg k1] at h6
    by_cases k2:f.fKind=2∨f.fKind=4
    · rw [if_pos k2] at h6
      simp only [Bool.and_eq_true,decide_eq_true_eq] at h6
      exact ⟨jG h6.1.2,by omega,fun h=>absurd h k1,fun _=>jG h6.1.1,fun _=>h6.2⟩
    · rw [if_neg k2] at h6
      by_cases k3:f.fKind=3
      · rw [if_pos k3] at h6
        simp only [Bool.and_eq_true,decide_eq_true_eq] at h6
        exact ⟨jG h6.1.2,by omega,fun h=>absurd h k1,fun _=>jG h6.1.1,fun h=>absurd h k2⟩
      · rw [if_neg k3] at h6;cases h6
end Go.Ev
/- Plain laws: path lengths; factors removed and added. -/
namespace Go.Ev
set_option linter.all false
def sQ (x:Int):Int:=if x < 0 then 0 - x else x
def yE (t:Int) (f:Factor):Int:=if f.fKind=2 then t+(sQ f.fPose.fX+sQ f.fPose.fY) else t
theorem xO (x:Int) (h:-1000000≤x∧x≤1000000):gE x=some (sQ x)∧0≤sQ x∧sQ x≤1000000:=by
  unfold gE sQ
  by_cases h0:x < 0
  · rw [if_pos h0,if_pos h0,wi (by omega)];exact ⟨rfl,by omega,by omega⟩
  · rw [if_neg h0,if_neg h0];exact ⟨rfl,by omega,by omega⟩
def below (l:List Factor) (n:Int):Nat:=(l.takeWhile (fun f=>decide (f.fId < n))).length
end Go.Ev
/- Plain laws: headings. -/
namespace Go.Ev
set_option linter.all false
section
variable {ρ:Type}
theorem tF {α β:Type} {step:Int→Option (Int ⊕ (Unit ⊕ ρ))} (l:List α) (act:α→Option β) (F:β→ρ) (h1:∀ (k:Nat) (hk:k < l.length),step (k:Int)=some (match act l[k] with | none=>.inl ((k+1:Nat):Int) | some x=>.inr (.inr (F x))))
    (h2:step (l.length:Int)=some (.inr (.inl ()))):lp step 0=some (match l.findSome? act with | none=>.inl () | some x=>.inr (F x)):=by
  have main:∀ n k,n+k=l.length→lp step (k:Int)=some (match (l.drop k).findSome? act with | none=>.inl () | some x=>.inr (F x)):=by
    intro n
    induction n with
    | zero =>
      intro k hk
      have:k=l.length:=by omega
      subst this
      rw [List.drop_length,List.findSome?_nil]
      exact dE h2
    | succ n ih =>
      intro k hk
      have hlt:k < l.length:=by omega
      rw [List.drop_eq_getElem_cons hlt,List.findSome?_cons]
      have h:=h1 k hlt
      cases ha:act l[k] with
      | none=>rw [ha] at h;rw [fQ h];exact ih (k+1) (by omega)
      | some x=>rw [ha] at h;exact dE h
  have:=main l.length 0 (by omega)
  simpa using this
end
theorem yI {α:Type} {l:List α} {i:Int} (h0:0≤i) (h1:i < l.length):idx l i=some (l[i.toNat]'(by omega)):=by
  have:=cZ (l:=l) (k:=i.toNat) (by omega)
  rwa [show ((i.toNat:Nat):Int)=i by omega] at this
def atI {α:Type} (d:α) (l:List α) (i:Int):α:=l.getD i.toNat d
theorem fF {α:Type} {l:List α} {i:Int} (d:α) (h0:0≤i) (h1:i < l.length):idx l i=some (atI d l i):=by
  rw [yI h0 h1,atI,List.getD_eq_getElem?_getD,List.getElem?_eq_getElem (by omega)];rfl
def kN (ns:List ByteArray) (a:List Int) (y:Factor):Option (Int × Int) :=
  if y.fKind=1 then (if atI 0 a (aK ns y.fTo) < 0 then some (aK ns y.fTo,y.fPose.fTurn) else none)
  else if y.fKind=2 then
    (if 0≤atI 0 a (aK ns y.fFrom)∧atI 0 a (aK ns y.fTo) < 0 then some (aK ns y.fTo,(atI 0 a (aK ns y.fFrom)+y.fPose.fTurn).tmod 4)
     else if atI 0 a (aK ns y.fFrom) < 0∧0≤atI 0 a (aK ns y.fTo) then some (aK ns y.fFrom,(atI 0 a (aK ns y.fTo)+4 - y.fPose.fTurn).tmod 4) else none)
  else none
structure HOk (l:List Factor) (ns:List ByteArray) (a:List Int):Prop where
  len:a.length=ns.length
  small:ns.length≤4194304
  lsmall:l.length≤4194304
  good:∀ f ∈ l,eE f=true
  to:∀ f ∈ l,f.fTo ∈ ns
  fr:∀ f ∈ l,f.fKind≠1→f.fFrom ∈ ns
  rng:∀ x ∈ a,-1≤x∧x≤3
theorem hP {α:Type} {d:α} {l:List α} {i:Int} (h0:0≤i) (h1:i < l.length):atI d l i ∈ l:=by
  unfold atI
  rw [List.getD_eq_getElem?_getD,List.getElem?_eq_getElem (by omega)]
  exact List.getElem_mem _
theorem tZ (l:List Factor) (ns:List ByteArray) (a:List Int) (H:HOk l ns a):dO l ns a=some (match l.findSome? (kN ns a) with | none=>(false,a) | some x=>(true,eA a x.1 x.2)):=by
  unfold dO eJ
  have e:=tF (step:=bT l ns a) l (kN ns a) (fun x=>(true,eA a x.1 x.2))
    (fun k hk=>by
      have hm:l[k] ∈ l:=List.getElem_mem hk
      have ht:=fN (H.to _ hm)
      have hb:=dS ns (l[k]).fTo
      have hfb:=dS ns (l[k]).fFrom
      have hfr:=H.fr _ hm
      have hlen:=H.len
      have hs:=H.small
      have hv:=(eO (H.good _ hm)).2.2.1
      have hls:=H.lsmall
      unfold bT kN
      rw [if_pos (by omega),cZ hk,wi (n:=(k:Int)+1) (by omega)]
      generalize l[k]=y at *
      simp only [Option.bind_some,nP ns _ hs]
      rw [fF (i:=aK ns y.fTo) 0 ht (by omega)]
      have r1:=H.rng _ (hP (d:=0) ht (by omega:aK ns y.fTo < a.length))
      obtain ⟨v1,v2,_⟩:=hv
      by_cases k1:y.fKind=1
      · simp only [k1,if_true,Option.bind_some]
        by_cases h1:atI 0 a (aK ns y.fTo) < 0 <;> simp [h1,aS]
      · simp only [k1,if_false,Option.bind_some,Bool.false_eq_true]
        by_cases k2:y.fKind=2
        · have hf:=fN (hfr k1)
          have r2:=H.rng _ (hP (d:=0) hf (by omega:aK ns y.fFrom < a.length))
          rw [fF (i:=aK ns y.fFrom) 0 hf (by omega)]
          simp only [k2,ne_eq,not_true,if_false,if_true,Option.bind_some,aR]
          generalize atI 0 a (aK ns y.fTo)=x at *
          generalize atI 0 a (aK ns y.fFrom)=z at *
          rw [wi (n:=z+_) (by omega),wi (n:=x+4) (by omega),wi (n:=x+4 - _) (by omega)]
          by_cases h1:0≤z <;> by_cases h2:x < 0
          · simp [h1,h2]
          · have h3:¬z < 0:=by omega
            simp [h1,h2,h3]
          · have h3:z < 0:=by omega
            have h4:¬0≤x:=by omega
            simp [h1,h2,h3,h4]
          · have h3:z < 0:=by omega
            have h4:0≤x:=by omega
            simp [h1,h2,h3,h4]
        · simp [k2])
    (by unfold bT;rw [if_neg (by omega)])
  rw [e]
  cases l.findSome? (kN ns a) with
  | none=>simp only [Option.bind_some];rw [aZ trivial];rfl
  | some x=>simp only [Option.bind_some];rw [aZ bA];rfl
theorem HOk.set {l:List Factor} {ns:List ByteArray} {a:List Int} (H:HOk l ns a) (i x:Int) (h:0≤x∧x≤3):HOk l ns (eA a i x) :=
  ⟨by rw [bA];exact H.len,H.small,H.lsmall,H.good,H.to,H.fr,fun z hz=>by
      unfold eA at hz
      rcases List.mem_or_eq_of_mem_set hz with h1 | h1
      · exact H.rng z h1
      · subst h1;exact ⟨by omega,h.2⟩⟩
theorem vG (ns:List ByteArray) (h:ns.length≤4194304):lp (cA ns) (0,([]:List Int))=some (List.replicate ns.length (-1)):=by
  have e:=iG (step:=cA ns) ns (fun k (t:List Int)=>((k:Int),t)) (fun t _=>t++[-1]) (fun t=>t) (fun k t=>t=List.replicate k (-1))
    (fun k t hk hi=>by
      subst hi
      refine ⟨?_,by rw [List.replicate_succ']⟩
      unfold cA
      simp only [List.length_replicate]
      rw [if_pos (by omega),aZ (by omega),wi (by omega)]
      rfl)
    (fun t hi=>by unfold cA;simp only [];rw [if_neg (by omega)]) [] rfl
  rw [show ((0:Nat):Int)=0 from rfl] at e
  rw [e.1,e.2]
theorem vZ {l:List Factor} (h:qF l=true):HOk l (aE l) (List.replicate (aE l).length (-1)):=by
  obtain ⟨h1,h2,h3,h4⟩:=nY h
  have g:∀ f ∈ l,eE f=true:=fun f hf=>by
    obtain ⟨i,hi,e⟩:=List.getElem_of_mem hf
    rw [← e];exact h3 i hi
  refine ⟨by simp,by omega,by omega,g,fun f hf=>?_,fun f hf hk=>?_,fun x hx=>?_⟩
  · exact qS hf (eO (g f hf)).2.2.2.2.2.1
  · exact rZ hf ((eO (g f hf)).2.2.2.2.2.2.2.2.1 hk)
  · have:=List.eq_of_mem_replicate hx;omega
end Go.Ev
/- Plain laws: dead reckoning. -/
namespace Go.Ev
set_option linter.all false
theorem uN (t x y:Int) (h0:0≤t) (h:t≤3):∃ r,lp (bI t) (x,y,0)=some r:=by
  obtain ⟨r,e,_⟩:=yH (step:=bI t) (fun s=>0≤s.2.2∧s.2.2≤t) (fun s=>(t - s.2.2).toNat) (fun _=>True)
    (by
      rintro ⟨a,b,c⟩ ⟨hc1,hc2⟩
      simp only at hc1 hc2
      by_cases hlt:c < t
      · right
        unfold bI
        simp only []
        rw [if_pos hlt,wi (n:=c+1) (by omega)]
        exact ⟨_,rfl,⟨by simp only;omega,by simp only;omega⟩,by simp only;omega⟩
      · left
        unfold bI
        simp only []
        rw [if_neg hlt]
        exact ⟨_,rfl,trivial⟩) (x,y,0) ⟨by simp,by simpa using h0⟩
  exact ⟨r,e⟩
theorem xF (x y t:Int):∃ r,bX x y t=some r∧dZ x y t=some r:=by
  unfold bX dZ
  rw [iP,show bZ=bI from rfl]
  simp only [pK]
  by_cases h:eW (Pose.mk t x y)
  · obtain ⟨h1,h2,h3,h4,h5,h6⟩:=h
    obtain ⟨r,e⟩:=uN t x y h1 h2
    simp only at h1 h2 h3 h4 h5 h6
    have a1:¬t < 0:=by omega
    have a2:¬3 < t:=by omega
    refine ⟨(r.1,r.2),?_,?_⟩
    · simp [eW,h1,h2,h3,h4,h5,h6,e]
    · simp [a1,a2,h3,h4,h5,h6,e]
  · refine ⟨(0,0),by simp [h],?_⟩
    by_cases a1:t < 0
    · simp [a1]
    by_cases a2:3 < t
    · simp [a1,a2]
    by_cases a3:-1000000≤x∧x≤1000000
    · by_cases a4:-1000000≤y∧y≤1000000
      · exact absurd ⟨by simp only;omega,by simp only;omega,a3.1,a3.2,a4.1,a4.2⟩ h
      · simp [a1,a2,a3,a4]
    · simp [a1,a2,a3]
noncomputable def lV (p q:Pose):Pose × Bool:=(bM p q).getD (⟨0,0,0⟩,false)
noncomputable def sC (p:Pose):Pose:=(dU p).getD ⟨0,0,0⟩
theorem xN (p q:Pose):bC p q=some (lV p q)∧bM p q=some (lV p q):=by
  have:∃ r,bC p q=some r∧bM p q=some r:=by
    unfold bC bM
    simp only [iP,kM]
    by_cases h1:eW p <;> by_cases h2:eW q
    · obtain ⟨r,e1,e2⟩:=xF q.fX q.fY p.fTurn
      simp only [h1,h2,decide_true,if_true,Option.bind_some,Bool.not_true,Bool.false_eq_true,if_false,e1,e2,aR]
      split <;> exact ⟨_,rfl,rfl⟩
    · simp [h1,h2]
    · simp [h1,h2]
    · simp [h1,h2]
  obtain ⟨r,e1,e2⟩:=this
  have:lV p q=r:=by unfold lV;rw [e2];rfl
  rw [this];exact ⟨e1,e2⟩
theorem zQ (p:Pose):cS p=some (sC p)∧dU p=some (sC p):=by
  have:∃ r,cS p=some r∧dU p=some r:=by
    unfold cS dU
    simp only [iP,kM,aR]
    by_cases h1:eW p
    · obtain ⟨r,e1,e2⟩:=xF (IntKind.i64.wrap (0 - p.fX)) (IntKind.i64.wrap (0 - p.fY)) ((IntKind.i64.wrap (4 - p.fTurn)).tmod 4)
      simp only [h1,decide_true,if_true,Option.bind_some,e1,e2]
      exact ⟨_,rfl,rfl⟩
    · simp [h1]
  obtain ⟨r,e1,e2⟩:=this
  have:sC p=r:=by unfold sC;rw [e2];rfl
  rw [this];exact ⟨e1,e2⟩
noncomputable def iT (ns:List ByteArray) (s:List Pose × List Bool) (y:Factor):Option (Int × Pose) :=
  if y.fKind=1 then (if atI false s.2 (aK ns y.fTo)=true then none else some (aK ns y.fTo,y.fPose))
  else if y.fKind=2 then
    (if atI false s.2 (aK ns y.fFrom)=true then
      (if atI false s.2 (aK ns y.fTo)=true then none
       else if (lV (atI ⟨0,0,0⟩ s.1 (aK ns y.fFrom)) y.fPose).2=true then some (aK ns y.fTo,(lV (atI ⟨0,0,0⟩ s.1 (aK ns y.fFrom)) y.fPose).1) else none)
     else if atI false s.2 (aK ns y.fTo)=true then
      (if (lV (atI ⟨0,0,0⟩ s.1 (aK ns y.fTo)) (sC y.fPose)).2=true then some (aK ns y.fFrom,(lV (atI ⟨0,0,0⟩ s.1 (aK ns y.fTo)) (sC y.fPose)).1) else none)
     else none)
  else none
structure POk (l:List Factor) (ns:List ByteArray) (s:List Pose × List Bool):Prop where
  len:s.1.length=ns.length
  len2:s.2.length=ns.length
  small:ns.length≤4194304
  lsmall:l.length≤4194304
  to:∀ f ∈ l,f.fTo ∈ ns
  fr:∀ f ∈ l,f.fKind≠1→f.fFrom ∈ ns
theorem sD (l:List Factor) (ns:List ByteArray) (s:List Pose × List Bool) (H:POk l ns s):eY l ns s.1 s.2=some (match l.findSome? (iT ns s) with | none=>(false,s.1,s.2) | some x=>(true,eA s.1 x.1 x.2,eA s.2 x.1 true)):=by
  unfold eY fR
  have e:=tF (step:=dN l ns s.1 s.2) l (iT ns s) (fun x=>(true,eA s.1 x.1 x.2,eA s.2 x.1 true))
    (fun k hk=>by
      have hm:l[k] ∈ l:=List.getElem_mem hk
      have ht:=fN (H.to _ hm)
      have hb:=dS ns (l[k]).fTo
      have hfb:=dS ns (l[k]).fFrom
      have hfr:=H.fr _ hm
      have hlen:=H.len
      have hlen2:=H.len2
      have hs:=H.small
      have hls:=H.lsmall
      unfold dN iT
      rw [if_pos (by omega),cZ hk,wi (n:=(k:Int)+1) (by omega)]
      generalize l[k]=y at *
      simp only [Option.bind_some,nP ns _ hs]
      rw [fF (i:=aK ns y.fTo) false ht (by omega),fF (i:=aK ns y.fTo) ⟨0,0,0⟩ ht (by omega)]
      by_cases k1:y.fKind=1
      · simp only [k1,if_true,Option.bind_some,aR]
        cases atI false s.2 (aK ns y.fTo) <;> simp
      · simp only [k1,if_false,Option.bind_some,Bool.false_eq_true]
        by_cases k2:y.fKind=2
        · have hf:=fN (hfr k1)
          rw [fF (i:=aK ns y.fFrom) false hf (by omega),fF (i:=aK ns y.fFrom) ⟨0,0,0⟩ hf (by omega)]
          simp only [k2,ne_eq,not_true,if_false,if_true,Option.bind_some,aR,(xN _ _).2,(zQ _).2]
          cases atI false s.2 (aK ns y.fFrom) <;> cases atI false s.2 (aK ns y.fTo)
          · simp
          · simp only [Bool.false_eq_true,if_false,if_true,Option.bind_some]
            cases (lV (atI ⟨0,0,0⟩ s.1 (aK ns y.fTo)) (sC y.fPose)).2 <;> simp
          · simp only [Bool.false_eq_true,if_false,if_true,Option.bind_some,Bool.not_false]
            cases (lV (atI ⟨0,0,0⟩ s.1 (aK ns y.fFrom)) y.fPose).2 <;> simp
          · simp
        · simp [k2])
    (by unfold dN;rw [if_neg (by omega)])
  rw [e]
  cases l.findSome? (iT ns s) with
  | none=>simp only [Option.bind_some];rw [aZ (by simp)];rfl
  | some x=>simp only [Option.bind_some];rw [aZ ⟨bA,bA⟩];rfl
theorem POk.set {l:List Factor} {ns:List ByteArray} {s:List Pose × List Bool} (H:POk l ns s) (i:Int) (x:Pose):POk l ns (eA s.1 i x,eA s.2 i true) :=
  ⟨by rw [bA];exact H.len,by rw [bA];exact H.len2,H.small,H.lsmall,H.to,H.fr⟩
theorem yT {l:List Factor} (h:qF l=true):POk l (aE l) (List.replicate ((aE l).length:Int).toNat ⟨0,0,0⟩,List.replicate ((aE l).length:Int).toNat false):=by
  have H:=vZ h
  exact ⟨by simp,by simp,H.small,H.lsmall,H.to,H.fr⟩
end Go.Ev
/- Plain laws: rows marked and held. -/
namespace Go.Ev
set_option linter.all false
section
variable {σ ρ:Type}
end
end Go.Ev
/- The exact laws of dead reckoning and of conflicts. -/
namespace Go.Ev
set_option linter.all false
def mL (ns:List ByteArray) (a:List Int) (y:Factor):Bool :=
  decide (y.fKind≠3)&&decide (0≤(if y.fKind=1 then 0 else atI 0 a (aK ns y.fFrom)))&&decide (0≤atI 0 a (aK ns y.fTo))&&decide (((if y.fKind=1 then 0 else atI 0 a (aK ns y.fFrom))+y.fPose.fTurn).tmod 4≠atI 0 a (aK ns y.fTo))
def dV (ns:List ByteArray) (a:List Int) (t:List Int) (y:Factor):List Int:=if mL ns a y then t++[y.fId] else t
theorem mK (ns:List ByteArray) (a t:List Int) (y:Factor):(dV ns a t y).length≤t.length+1:=by unfold dV;split <;> simp
theorem uF (l:List Factor) (ns:List ByteArray) (a:List Int) (H:HOk l ns a):lp (bJ l ns a) (0,([]:List Int))=some (l.foldl (dV ns a) [])∧(l.foldl (dV ns a) []).length≤l.length:=by
  have e:=iG (step:=bJ l ns a) l (fun k (t:List Int)=>((k:Int),t)) (dV ns a) (fun t=>t) (fun k t=>t.length≤k)
    (fun k t hk hi=>by
      refine ⟨?_,by have:=mK ns a t l[k];omega⟩
      have hm:l[k] ∈ l:=List.getElem_mem hk
      have ht:=fN (H.to _ hm)
      have hb:=dS ns (l[k]).fTo
      have hfb:=dS ns (l[k]).fFrom
      have hfr:=H.fr _ hm
      have hlen:=H.len
      have hs:=H.small
      have hg:=eO (H.good _ hm)
      have hls:=H.lsmall
      unfold bJ dV mL
      simp only []
      rw [if_pos (by omega),cZ hk,wi (n:=(k:Int)+1) (by omega),aZ (by omega)]
      generalize l[k]=y at *
      simp only [Option.bind_some,oM,nP ns _ hs,aR]
      rw [fF (i:=aK ns y.fTo) 0 ht (by omega)]
      have r1:=H.rng _ (hP (d:=0) ht (by omega:aK ns y.fTo < a.length))
      obtain ⟨v1,v2,_⟩:=hg.2.2.1
      by_cases k1:y.fKind=1
      · have he:=hg.2.2.2.2.2.2.2.1 k1
        simp only [he,ne_eq,not_true,if_false,Option.bind_some,k1,if_true]
        generalize atI 0 a (aK ns y.fTo)=x at *
        rw [wi (by omega)]
        generalize (0+y.fPose.fTurn).tmod 4=q
        by_cases h1:0≤x <;> by_cases h2:q=x <;> simp [h1,h2]
      · have he:=hg.2.2.2.2.2.2.2.2.1 k1
        have hf:=fN (hfr k1)
        have r2:=H.rng _ (hP (d:=0) hf (by omega:aK ns y.fFrom < a.length))
        simp only [ne_eq,he,not_false_eq_true,if_true,Option.bind_some,k1,if_false]
        rw [fF (i:=aK ns y.fFrom) 0 hf (by omega)]
        simp only [Option.bind_some]
        generalize atI 0 a (aK ns y.fTo)=x at *
        generalize atI 0 a (aK ns y.fFrom)=z at *
        rw [wi (by omega)]
        by_cases k3:y.fKind=3 <;> by_cases h1:0≤x <;> by_cases h3:0≤z <;> by_cases h2:(z+y.fPose.fTurn).tmod 4=x <;> simp [k3,h1,h2,h3])
    (fun t hi=>by unfold bJ;simp only [];rw [if_neg (by omega)]) [] (by simp)
  rw [show ((0:Nat):Int)=0 from rfl] at e
  exact e
theorem uG (l:List Factor) (ns:List ByteArray) (a:List Int) (H:HOk l ns a):lp (aQ l ns a) (0,([]:List Int))=some (l.foldl (dV ns a) []):=by
  have e:=iG (step:=aQ l ns a) l (fun k (t:List Int)=>((k:Int),t)) (dV ns a) (fun t=>t) (fun k t=>t.length≤k)
    (fun k t hk hi=>by
      refine ⟨?_,by have:=mK ns a t l[k];omega⟩
      have hm:l[k] ∈ l:=List.getElem_mem hk
      have ht:=fN (H.to _ hm)
      have hb:=dS ns (l[k]).fTo
      have hfb:=dS ns (l[k]).fFrom
      have hfr:=H.fr _ hm
      have hlen:=H.len
      have hs:=H.small
      have hg:=eO (H.good _ hm)
      have hls:=H.lsmall
      unfold aQ dV mL
      simp only []
      rw [if_pos (by omega),cZ hk,wi (n:=(k:Int)+1) (by omega),aZ (by omega)]
      generalize l[k]=y at *
      simp only [Option.bind_some,nP ns _ hs,aR]
      rw [fF (i:=aK ns y.fTo) 0 ht (by omega)]
      have r1:=H.rng _ (hP (d:=0) ht (by omega:aK ns y.fTo < a.length))
      obtain ⟨v1,v2,_⟩:=hg.2.2.1
      by_cases k1:y.fKind=1
      · simp only [ne_eq,not_true,if_false,Option.bind_some,k1,if_true]
        generalize atI 0 a (aK ns y.fTo)=x at *
        rw [wi (by omega)]
        by_cases h1:x < 0
        · have h3:¬0≤x:=by omega
          simp [h1,h3]
        · have h3:0≤x:=by omega
          generalize (0+y.fPose.fTurn).tmod 4=q
          by_cases h2:q=x <;> simp [h1,h2,h3]
      · have hf:=fN (hfr k1)
        have r2:=H.rng _ (hP (d:=0) hf (by omega:aK ns y.fFrom < a.length))
        simp only [ne_eq,not_false_eq_true,if_true,Option.bind_some,k1,if_false]
        rw [fF (i:=aK ns y.fFrom) 0 hf (by omega)]
        simp only [Option.bind_some]
        generalize atI 0 a (aK ns y.fTo)=x at *
        generalize atI 0 a (aK ns y.fFrom)=z at *
        rw [wi (by omega)]
        by_cases h1:x < 0
        · have h3:¬0≤x:=by omega
          by_cases k3:y.fKind=3 <;> simp [k3,h1,h3]
        · have h3:0≤x:=by omega
          by_cases k3:y.fKind=3 <;> by_cases h4:0≤z <;> by_cases h2:(z+y.fPose.fTurn).tmod 4=x <;> simp [k3,h1,h2,h3,h4])
    (fun t hi=>by unfold aQ;simp only [];rw [if_neg (by omega)]) [] (by simp)
  rw [show ((0:Nat):Int)=0 from rfl] at e
  exact e.1
end Go.Ev
/- Drawn factor lists: names, validity, headings and poses of the path. -/
namespace Go.Ev
set_option linter.all false
def nC:List ByteArray:=[pN 0,pN 1,pN 2,pN 3,pN 4,mN 0,mN 1]
theorem wQ {k:Int} (h:0≤k∧k≤4):k=0∨k=1∨k=2∨k=3∨k=4:=by omega
theorem tV {k:Int} (h:0≤k∧k≤4):pN k ∈ nC:=by
  rcases wQ h with rfl | rfl | rfl | rfl | rfl <;> simp [nC]
theorem aAA {k:Int} (h:0≤k∧k≤1):mN k ∈ nC:=by
  rcases (show k=0∨k=1 by omega) with rfl | rfl <;> simp [nC]
theorem jW {k:Int} (h:0≤k∧k≤4):dW 112 (pN k)=true:=by
  rcases wQ h with rfl | rfl | rfl | rfl | rfl <;> decide
theorem wK {k:Int} (h:0≤k∧k≤1):dW 109 (mN k)=true:=by
  rcases (show k=0∨k=1 by omega) with rfl | rfl <;> decide
theorem rY {i k:Int} (hi:0≤i∧i≤4) (hk:0≤k∧k≤4) (e:pN i=pN k):i=k:=by
  rcases wQ hi with rfl | rfl | rfl | rfl | rfl <;> rcases wQ hk with rfl | rfl | rfl | rfl | rfl <;> first | rfl | (exact absurd e (by decide))
theorem jV (k:Int):(pN k).size=2:=rfl
theorem wJ (k:Int):(mN k).size=2:=rfl
theorem GenL.cases {n:Int} {l:List Factor} (h:GenL n l) {f:Factor} (hf:f ∈ l):∃ j:Nat,∃ hj:j < l.length,f=l[j]∧(((j:Int)≤n∧pS j f)∨(n < (j:Int)∧sW n j f)):=by
  obtain ⟨j,hj,rfl⟩:=List.getElem_of_mem hf
  obtain ⟨h1,h2⟩:=h.2.2.2 j hj
  rcases Int.lt_or_le n (j:Int) with c | c
  · exact ⟨j,hj,rfl,.inr ⟨c,h2 c⟩⟩
  · exact ⟨j,hj,rfl,.inl ⟨c,h1 c⟩⟩
theorem emp:(ByteArray.empty:ByteArray)=(⟨#[]⟩:ByteArray):=rfl
theorem lF {n:Int} {l:List Factor} (h:GenL n l) {f:Factor} (hf:f ∈ l):eE f=true∧oP f∧(f.fFrom=(⟨#[]⟩:ByteArray)∨f.fFrom ∈ nC)∧f.fTo ∈ nC:=by
  have hn:=h.1
  obtain ⟨j,hj,_,c⟩:=h.cases hf
  have h8:=h.2.2.1
  rcases c with ⟨c,g1,g2,⟨g3,g4,g5⟩,g6⟩ | ⟨c,g1,g2,⟨g3,g4,g5⟩,i,i1,i2,i3⟩
  · by_cases z:j=0
    · rw [if_pos z] at g6
      obtain ⟨k1,k2,k3⟩:=g6
      refine ⟨?_,?_,.inl k2,by rw [k3];exact tV (by omega)⟩
      · unfold eE kH eW
        rw [if_pos k1,k2,k3,jW (by omega),decide_eq_true (by omega)]
        simp [emp]
      · unfold oP;rw [k2,k3,jV];decide
    · rw [if_neg z] at g6
      obtain ⟨k1,k2,k3⟩:=g6
      refine ⟨?_,?_,.inr (by rw [k2];exact tV (by omega)),by rw [k3];exact tV (by omega)⟩
      · unfold eE kH eW
        rw [if_neg (by omega),if_pos (.inl k1),k2,k3,jW (by omega),jW (by omega),decide_eq_true (by omega)]
        have:pN ((j:Int) - 1)≠pN j:=fun e=>by have:=rY (by omega) (by omega) e;omega
        simp [this]
      · unfold oP;rw [k2,k3,jV,jV];decide
  · rcases i3 with ⟨k1,k,k2,k3,k4⟩ | ⟨k1,k2,b,k3,k4⟩
    · refine ⟨?_,?_,.inr (by rw [i2];exact tV (by omega)),by rw [k4];exact tV (by omega)⟩
      · unfold eE kH eW
        rw [if_neg (by omega),if_pos (.inr k1),i2,k4,jW (by omega),jW (by omega),decide_eq_true (by omega)]
        have:pN i≠pN k:=fun e=>by have:=rY (by omega) (by omega) e;omega
        simp [this]
      · unfold oP;rw [i2,k4,jV,jV];decide
    · refine ⟨?_,?_,.inr (by rw [i2];exact tV (by omega)),by rw [k4];exact aAA k3⟩
      · unfold eE kH eW
        rw [if_neg (by omega),if_neg (by omega),if_pos k1,i2,k4,jW (by omega),wK k3,decide_eq_true (by omega)]
        simp [k2]
      · unfold oP;rw [i2,k4,jV,wJ];decide
theorem tG {α:Type} [DecidableEq α]:∀ {a b:List α},a.Nodup→(∀ x ∈ a,x ∈ b)→a.length≤b.length
  | [],_,_,_=>Nat.zero_le _
  | x::a,b,hn,hs=>by
    rw [List.nodup_cons] at hn
    have hx:=hs x (by simp)
    have:=tG (a:=a) (b:=b.erase x) hn.2 (fun y hy=>by
      have hne:y≠x:=fun e=>hn.1 (e ▸ hy)
      exact (List.mem_erase_of_ne hne).2 (hs y (by simp [hy])))
    rw [List.length_erase_of_mem hx] at this
    have:=List.length_pos_of_mem hx
    rw [List.length_cons];omega
theorem oF {ns:List ByteArray} {s:ByteArray} (h:ns.Nodup):(fU ns s).Nodup:=by
  unfold fU
  split
  · rename_i c
    rw [List.nodup_append]
    refine ⟨h,by simp,fun x hx y hy e=>?_⟩
    rw [List.mem_singleton] at hy
    subst hy
    subst e
    rw [lE.2 hx] at c;cases c.2
  · exact h
theorem mG:∀ (l:List Factor) (ns:List ByteArray),ns.Nodup→(l.foldl (fun ns f=>fU (fU ns f.fFrom) f.fTo) ns).Nodup
  | [],_,h=>h
  | f::l,ns,h=>mG l _ (oF (oF h))
theorem rJ {ns:List ByteArray} {s t:ByteArray} (h:t ∈ fU ns s):t ∈ ns∨(t=s∧s≠(⟨#[]⟩:ByteArray)):=by
  unfold fU at h
  split at h
  · rename_i c
    rcases List.mem_append.1 h with h | h
    · exact .inl h
    · exact .inr ⟨List.mem_singleton.1 h,c.1⟩
  · exact .inl h
theorem pD {Q:ByteArray→Prop}:∀ (l:List Factor) (ns:List ByteArray),(∀ s ∈ ns,Q s)→(∀ f ∈ l,(f.fFrom≠(⟨#[]⟩:ByteArray)→Q f.fFrom)∧Q f.fTo)→∀ s ∈ l.foldl (fun ns f=>fU (fU ns f.fFrom) f.fTo) ns,Q s
  | [],_,h,_=>h
  | f::l,ns,h,hf=>pD l _ (fun s hs=>by
      obtain ⟨q1,q2⟩:=hf f (by simp)
      rcases rJ hs with hs | ⟨rfl,_⟩
      · rcases rJ hs with hs | ⟨rfl,e⟩
        · exact h s hs
        · exact q1 e
      · exact q2) (fun g hg=>hf g (by simp [hg]))
theorem iI {n:Int} {l:List Factor} (h:GenL n l):(aE l).Nodup∧(aE l).length≤7:=by
  have h1:=mG l [] (by simp)
  have h2:=pD (Q:=fun s=>s ∈ nC) l [] (by simp) (fun f hf=>by
    obtain ⟨_,_,a,b⟩:=lF h hf
    exact ⟨fun e=>a.resolve_left e,b⟩)
  exact ⟨h1,tG h1 h2⟩
theorem sH {n:Int} {l:List Factor} (h:GenL n l):qF l=true:=by
  unfold qF
  rw [decide_eq_true (by have:=h.2.2.1;omega),decide_eq_true (by have:=(iI h).2;omega)]
  simp only [Bool.true_and,Bool.and_true,Bool.not_eq_true',List.any_eq_false,List.mem_range]
  intro k hk
  rw [mW l k hk]
  have g:=(lF h (List.getElem_mem hk)).1
  have id:∀ j (hj:j < l.length),(l[j]).fId=(j:Int)+1:=fun j hj=>by
    obtain ⟨a,b⟩:=h.2.2.2 j hj
    rcases Int.lt_or_le n (j:Int) with c | c
    · exact (b c).1
    · exact (a c).1
  rw [g]
  by_cases z:0 < k
  · have i1:=id k hk
    have i2:=id (k - 1) (by omega)
    simp only [Bool.not_true,Bool.false_or,Bool.and_eq_true,decide_eq_true_eq,not_and]
    intro _
    omega
  · simp [z]
def pI (l:List Factor) (k:Nat):Int:=aK (aE l) (pN k)
theorem qT {ns:List ByteArray} {s:ByteArray} (h:s ∈ ns):∃ hi:(aK ns s).toNat < ns.length,ns[(aK ns s).toNat]=s:=by
  unfold aK
  cases e:ns.findIdx? (fun x=>decide (x=s)) with
  | none=>have:=List.findIdx?_eq_none_iff.1 e s h;simp at this
  | some k =>
    obtain ⟨h1,h2,_⟩:=List.findIdx?_eq_some_iff_getElem.1 e
    exact ⟨by simpa using h1,by simpa using h2⟩
theorem vD {n:Int} {l:List Factor} (h:GenL n l) {k:Nat} (hk:(k:Int)≤n):pN k ∈ aE l:=by
  have hl:=h.2.1
  have hj:k < l.length:=by omega
  have o:=(h.2.2.2 k hj).1 hk
  have g:=lF h (List.getElem_mem hj)
  have:=qS (List.getElem_mem hj) (eO g.1).2.2.2.2.2.1
  obtain ⟨_,_,_,o4⟩:=o
  by_cases z:k=0
  · rw [if_pos z] at o4;rw [o4.2.2] at this;subst z;exact this
  · rw [if_neg z] at o4;rw [o4.2.2] at this;exact this
theorem iS {n:Int} {l:List Factor} (h:GenL n l) {k:Nat} (hk:(k:Int)≤n):0≤pI l k∧pI l k < (aE l).length:=⟨fN (vD h hk),(dS _ _).2⟩
theorem qD {n:Int} {l:List Factor} (h:GenL n l) {i k:Nat} (hi:(i:Int)≤n) (hk:(k:Int)≤n) (e:pI l i=pI l k):i=k:=by
  have hn:=h.1
  obtain ⟨a1,a2⟩:=qT (vD h hi)
  obtain ⟨b1,b2⟩:=qT (vD h hk)
  have:pN (i:Int)=pN (k:Int):=by
    rw [← a2,← b2]
    unfold pI at e
    congr 1
    rw [e]
  have:=rY (by omega) (by omega) this
  omega
end Go.Ev
/- Drawn factor lists: the headings and the poses that the path gives. -/
namespace Go.Ev
set_option linter.all false
theorem jP {α β:Type} {f:α→Option β}:∀ {l:List α} (j:Nat) (hj:j < l.length) {x:β},(∀ m (hm:m < j),f (l[m]'(by omega))=none)→f l[j]=some x→l.findSome? f=some x
  | a::l,0,_,x,_,h=>by rw [List.findSome?_cons,show f a=some x from h]
  | a::l,j+1,hj,x,h0,h=>by
    rw [List.findSome?_cons,show f a=none from h0 0 (by omega)]
    exact jP j (by simpa using hj) (fun m hm=>h0 (m+1) (by omega)) h
theorem lG {α β:Type} {f:α→Option β} {l:List α} (h:∀ m (hm:m < l.length),f l[m]=none):l.findSome? f=none:=by
  rw [List.findSome?_eq_none_iff]
  intro x hx
  obtain ⟨m,hm,rfl⟩:=List.getElem_of_mem hx
  exact h m hm
theorem lL {α:Type} {d:α} {a:List α} {i:Int} (x:α) (h0:0≤i) (h1:i < a.length):atI d (eA a i x) i=x:=by
  unfold atI eA
  rw [List.getD_eq_getElem?_getD,List.getElem?_set_self (by omega)];rfl
theorem kC {α:Type} {d:α} {a:List α} {i k:Int} (x:α) (h0:0≤i) (hk:0≤k) (h:k≠i):atI d (eA a i x) k=atI d a k:=by
  unfold atI eA
  rw [List.getD_eq_getElem?_getD,List.getD_eq_getElem?_getD,List.getElem?_set_ne (by omega)]
def tr (l:List Factor) (k:Nat):Int:=(l[k]?.map (fun f=>f.fPose.fTurn)).getD 0
theorem mA {l:List Factor} {k:Nat} (h:k < l.length):tr l k=(l[k]).fPose.fTurn:=by
  unfold tr;rw [List.getElem?_eq_getElem h];rfl
def Tn (l:List Factor):Nat→Int
  | 0=>tr l 0
  | k+1=>(Tn l k+tr l (k+1)).tmod 4
section
variable {n:Int} {l:List Factor}
theorem pB (h:GenL n l):∃ h0:0 < l.length,(l[0]).fKind=1∧aK (aE l) (l[0]).fTo=pI l 0∧smP 20 (l[0]).fPose:=by
  have hn:=h.1
  have hl:=h.2.1
  have h0:0 < l.length:=by omega
  obtain ⟨_,_,g,o⟩:=(h.2.2.2 0 h0).1 (by omega)
  rw [if_pos rfl] at o
  exact ⟨h0,o.1,by rw [o.2.2];rfl,g⟩
theorem pA (h:GenL n l) {m:Nat} (hm:((m+1:Nat):Int)≤n):∃ h0:m+1 < l.length,(l[m+1]).fKind=2∧aK (aE l) (l[m+1]).fFrom=pI l m∧aK (aE l) (l[m+1]).fTo=pI l (m+1)∧smP 20 (l[m+1]).fPose:=by
  have hl:=h.2.1
  have h0:m+1 < l.length:=by omega
  obtain ⟨_,_,g,o⟩:=(h.2.2.2 (m+1) h0).1 hm
  rw [if_neg (by omega)] at o
  refine ⟨h0,o.1,?_,by rw [o.2.2];rfl,g⟩
  rw [o.2.1]
  unfold pI
  rw [show ((m+1:Nat):Int) - 1=(m:Int) by omega]
theorem zL (h:GenL n l) {m:Nat} (hm:m < l.length) (hn:n < (m:Int)):(l[m]).fKind≠1∧(l[m]).fKind≠2:=by
  obtain ⟨_,_,_,i,_,_,c⟩:=(h.2.2.2 m hm).2 hn
  rcases c with ⟨c,_⟩ | ⟨c,_⟩ <;> omega
theorem vN (h:GenL n l):∀ k:Nat,(k:Int)≤n→0≤Tn l k∧Tn l k≤3
  | 0,_=>by
    obtain ⟨h0,_,_,g,_⟩:=pB h
    unfold Tn;rw [mA h0];exact g
  | k+1,hk=>by
    have i:=vN h k (by omega)
    obtain ⟨h0,_,_,_,g,_⟩:=pA h hk
    unfold Tn
    rw [mA h0]
    have t1:=Int.tmod_nonneg 4 (show 0≤Tn l k+(l[k+1]).fPose.fTurn by omega)
    have t2:=Int.tmod_lt_of_pos (Tn l k+(l[k+1]).fPose.fTurn) (show (0:Int) < 4 by omega)
    omega
theorem xK {ns:List ByteArray} {a:List Int} {y:Factor} (k:y.fKind=1):kN ns a y=if atI 0 a (aK ns y.fTo) < 0 then some (aK ns y.fTo,y.fPose.fTurn) else none:=by
  unfold kN;rw [if_pos k]
theorem xJ {ns : List ByteArray} {a : List Int} {y : Factor} (k : y.fKind = 2) : kN ns a y = if 0 ≤ atI 0 a (aK ns y.fFrom) ∧ atI 0 a (aK ns y.fTo) < 0 then some (aK ns y.fTo, (atI 0 a (aK ns y.fFrom) + y.fPose.fTurn).tmod 4)
     else if atI 0 a (aK ns y.fFrom) < 0∧0≤atI 0 a (aK ns y.fTo) then some (aK ns y.fFrom,(atI 0 a (aK ns y.fTo)+4 - y.fPose.fTurn).tmod 4) else none:=by
  unfold kN;rw [if_neg (by omega),if_pos k]
theorem zT {ns:List ByteArray} {a:List Int} {y:Factor} (k:y.fKind≠1∧y.fKind≠2):kN ns a y=none:=by
  unfold kN;rw [if_neg k.1,if_neg k.2]
structure HS (l:List Factor) (j:Nat) (a:List Int):Prop where
  ok:HOk l (aE l) a
  kn:∀ i:Int,0≤i→i < (aE l).length→(0≤atI 0 a i↔∃ k,k < j∧i=pI l k)
  val:∀ k,k < j→atI 0 a (pI l k)=Tn l k
variable {a:List Int}
theorem HS.on {j:Nat} (h:GenL n l) (S:HS l j a) {k:Nat} (hk:(k:Int)≤n) (hj:k < j):0≤atI 0 a (pI l k):=by
  obtain ⟨p1,p2⟩:=iS h hk
  exact (S.kn _ p1 p2).2 ⟨k,hj,rfl⟩
theorem HS.off {j:Nat} (h:GenL n l) (S:HS l j a) {k:Nat} (hk:(k:Int)≤n) (hj:j≤k) (hn:(j:Int)≤n+1):atI 0 a (pI l k) < 0:=by
  obtain ⟨p1,p2⟩:=iS h hk
  rcases Int.lt_or_le (atI 0 a (pI l k)) 0 with c | c
  · exact c
  · obtain ⟨m,m1,m2⟩:=(S.kn _ p1 p2).1 c
    have:=qD h hk (by omega) m2
    omega
theorem tJ (h:GenL n l) {j:Nat} (S:HS l j a) {m:Nat} (hm:m < j) (hn:(m:Int)≤n) (hl:m < l.length):kN (aE l) a l[m]=none:=by
  cases m with
  | zero =>
    obtain ⟨_,k,e,_⟩:=pB h
    have o:=S.on h hn hm
    rw [xK k,e,if_neg (by omega)]
  | succ m =>
    obtain ⟨_,k,e1,e2,_⟩:=pA h hn
    have o1:=S.on h (k:=m) (by omega) (by omega)
    have o2:=S.on h hn hm
    rw [xJ k,e1,e2,if_neg (by omega),if_neg (by omega)]
theorem wN (h:GenL n l) {j:Nat} (hj:(j:Int)≤n) (S:HS l j a):l.findSome? (kN (aE l) a)=some (pI l j,Tn l j):=by
  have hl:=h.2.1
  refine jP j (by omega) (fun m hm=>tJ h S hm (by omega) (by omega)) ?_
  have f:=S.off h hj (Nat.le_refl _) (by omega)
  cases j with
  | zero =>
    obtain ⟨h0,k,e,_⟩:=pB h
    rw [xK k,e,if_pos f,Tn,mA h0]
  | succ j =>
    obtain ⟨h0,k,e1,e2,_⟩:=pA h hj
    have o:=S.on h (k:=j) (by omega) (by omega)
    rw [xJ k,e1,e2,if_pos ⟨o,f⟩,S.val j (by omega),Tn,mA h0]
theorem yJ (h:GenL n l) (S:HS l (n.toNat+1) a):l.findSome? (kN (aE l) a)=none:=by
  have hn:=h.1
  refine lG (fun m hm=>?_)
  rcases Int.lt_or_le n (m:Int) with c | c
  · exact zT (zL h hm c)
  · exact tJ h S (by omega) c hm
theorem wM (h:GenL n l) {j:Nat} (hj:(j:Int)≤n) (S:HS l j a):HS l (j+1) (eA a (pI l j) (Tn l j)):=by
  have t:=vN h j hj
  obtain ⟨p1,p2⟩:=iS h hj
  have hlen:=S.ok.len
  refine ⟨S.ok.set _ _ t,fun i h0 h1=>?_,fun k hk=>?_⟩
  · by_cases e:i=pI l j
    · subst e
      rw [lL _ p1 (by omega)]
      exact ⟨fun _=>⟨j,by omega,rfl⟩,fun _=>t.1⟩
    · rw [kC _ p1 h0 e,S.kn i h0 h1]
      constructor
      · rintro ⟨k,k1,k2⟩;exact ⟨k,by omega,k2⟩
      · rintro ⟨k,k1,k2⟩
        refine ⟨k,?_,k2⟩
        have:k≠j:=fun e'=>e (e' ▸ k2)
        omega
  · by_cases e:k=j
    · subst e;exact lL _ p1 (by omega)
    · obtain ⟨q1,_⟩:=iS h (k:=k) (by omega)
      rw [kC _ p1 q1 (fun e'=>e (qD h (by omega) hj e'))]
      exact S.val k (by omega)
theorem qY (l:List Factor) (ns:List ByteArray) (a:List Int) (H:HOk l ns a):cL l ns a=some (match l.findSome? (kN ns a) with | none=>.inr a | some x=>.inl (eA a x.1 x.2)):=by
  unfold cL
  rw [tZ l ns a H]
  cases hx:l.findSome? (kN ns a) with
  | none=>simp
  | some x=>simp
theorem sG (h:GenL n l):∀ (d j:Nat) (a:List Int),d+j=n.toNat+1→HS l j a→∃ v,lp (cL l (aE l)) a=some v∧HS l (n.toNat+1) v:=by
  have hn:=h.1
  intro d
  induction d with
  | zero =>
    intro j a hj S
    have:j=n.toNat+1:=by omega
    subst this
    refine ⟨a,dE ?_,S⟩
    rw [qY _ _ _ S.ok,yJ h S]
  | succ d ih =>
    intro j a hj S
    have hj':(j:Int)≤n:=by omega
    obtain ⟨v,e,q⟩:=ih (j+1) _ (by omega) (wM h hj' S)
    refine ⟨v,?_,q⟩
    rw [fQ (s':=eA a (pI l j) (Tn l j)),e]
    rw [qY _ _ _ S.ok,wN h hj' S]
theorem mU (h:GenL n l):∀ f ∈ l,oP f:=fun f hf=>(lF h hf).2.1
theorem xE (h:GenL n l):∃ v,aY l=some v∧HS l (n.toNat+1) v:=by
  have hfl:=sH h
  have hl:l.length≤8:=h.2.2.1
  unfold aY
  rw [kA l (by omega) (mU h),dP l (by omega)]
  have S:HS l 0 (List.replicate (aE l).length (-1)):=by
    refine ⟨vZ hfl,fun i h0 h1=>⟨fun c=>?_,fun ⟨k,k1,_⟩=>by omega⟩,fun k hk=>by omega⟩
    have:=List.eq_of_mem_replicate (hP (d:=0) (l:=List.replicate (aE l).length (-1)) h0 (by simpa using h1))
    omega
  obtain ⟨v,e,q⟩:=sG h (n.toNat+1) 0 _ (by omega) S
  refine ⟨v,?_,q⟩
  simp only [Option.bind_some,hfl,if_true]
  rw [show fE=cA from rfl,vG (aE l) (by have:=(iI h).2;omega)]
  simp only [Option.bind_some,e]
end
end Go.Ev
/- Drawn factor lists: the poses of the path. -/
namespace Go.Ev
set_option linter.all false
section
variable {n:Int} {l:List Factor}
theorem xH {ns:List ByteArray} {s:List Pose × List Bool} {y:Factor} (k:y.fKind=1):iT ns s y=if atI false s.2 (aK ns y.fTo)=true then none else some (aK ns y.fTo,y.fPose):=by
  unfold iT;rw [if_pos k]
theorem yG {ns:List ByteArray} {s:List Pose × List Bool} {y:Factor} (k:y.fKind=2) (h1:atI false s.2 (aK ns y.fFrom)=true) (h2:atI false s.2 (aK ns y.fTo)=true):iT ns s y=none:=by
  unfold iT;rw [if_neg (by omega),if_pos k,if_pos h1,if_pos h2]
theorem yF {ns:List ByteArray} {s:List Pose × List Bool} {y:Factor} (k:y.fKind=2) (h1:atI false s.2 (aK ns y.fFrom)=true) (h2:¬atI false s.2 (aK ns y.fTo)=true) (h3:(lV (atI ⟨0,0,0⟩ s.1 (aK ns y.fFrom)) y.fPose).2=true):iT ns s y=some (aK ns y.fTo,(lV (atI ⟨0,0,0⟩ s.1 (aK ns y.fFrom)) y.fPose).1):=by
  unfold iT;rw [if_neg (by omega),if_pos k,if_pos h1,if_neg h2,if_pos h3]
theorem zK {ns:List ByteArray} {s:List Pose × List Bool} {y:Factor} (k:y.fKind≠1∧y.fKind≠2):iT ns s y=none:=by
  unfold iT;rw [if_neg k.1,if_neg k.2]
structure PS (l:List Factor) (j:Nat) (s:List Pose × List Bool):Prop where
  ok:POk l (aE l) s
  kn:∀ i:Int,0≤i→i < (aE l).length→(atI false s.2 i=true↔∃ k,k < j∧i=pI l k)
  val:∀ k:Nat,k < j→(atI ⟨0,0,0⟩ s.1 (pI l k)).fTurn=Tn l k∧smP (20+20*(k:Int)) (atI ⟨0,0,0⟩ s.1 (pI l k))
variable {s:List Pose × List Bool}
theorem PS.on {j:Nat} (h:GenL n l) (S:PS l j s) {k:Nat} (hk:(k:Int)≤n) (hj:k < j):atI false s.2 (pI l k)=true:=by
  obtain ⟨p1,p2⟩:=iS h hk
  exact (S.kn _ p1 p2).2 ⟨k,hj,rfl⟩
theorem PS.off {j:Nat} (h:GenL n l) (S:PS l j s) {k:Nat} (hk:(k:Int)≤n) (hj:j≤k) (hn:(j:Int)≤n+1):¬atI false s.2 (pI l k)=true:=by
  obtain ⟨p1,p2⟩:=iS h hk
  intro c
  obtain ⟨m,m1,m2⟩:=(S.kn _ p1 p2).1 c
  have:=qD h hk (by omega) m2
  omega
theorem tD (h:GenL n l) {j:Nat} (S:PS l j s) {m:Nat} (hm:m < j) (hn:(m:Int)≤n) (hl:m < l.length):iT (aE l) s l[m]=none:=by
  cases m with
  | zero =>
    obtain ⟨_,k,e,_⟩:=pB h
    have o:=S.on h hn hm
    rw [xH k,e,if_pos o]
  | succ m =>
    obtain ⟨_,k,e1,e2,_⟩:=pA h hn
    have o1:=S.on h (k:=m) (by omega) (by omega)
    have o2:=S.on h hn hm
    exact yG k (by rw [e1];exact o1) (by rw [e2];exact o2)
theorem wG (h:GenL n l) {j:Nat} (hj:(j:Int)≤n) (S:PS l j s):∃ p,l.findSome? (iT (aE l) s)=some (pI l j,p)∧p.fTurn=Tn l j∧smP (20+20*(j:Int)) p:=by
  have hl:=h.2.1
  have hn:=h.1
  have f:=S.off h hj (Nat.le_refl _) (by omega)
  have fin:∀ p,iT (aE l) s (l[j]'(by omega))=some (pI l j,p)→l.findSome? (iT (aE l) s)=some (pI l j,p):=fun p hp =>
    jP j (by omega) (fun m hm=>tD h S hm (by omega) (by omega)) hp
  cases j with
  | zero =>
    obtain ⟨h0,k,e,g⟩:=pB h
    refine ⟨(l[0]).fPose,fin _ (by rw [xH k,e,if_neg f]),by rw [Tn,mA h0],g.up (by omega)⟩
  | succ j =>
    obtain ⟨h0,k,e1,e2,g⟩:=pA h hj
    have o:=S.on h (k:=j) (by omega) (by omega)
    obtain ⟨v1,v2⟩:=S.val j (by omega)
    obtain ⟨r,c1,c2,c3⟩:=sI v2 g (by omega) (by omega) (by omega)
    have c:lV (atI ⟨0,0,0⟩ s.1 (pI l j)) (l[j+1]).fPose=(r,true):=Option.some.inj ((xN _ _).1.symm.trans c1)
    refine ⟨r,fin _ ?_,by rw [c3,v1,Tn,mA h0],c2.up (by omega)⟩
    rw [yF k (by rw [e1];exact o) (by rw [e2];exact f) (by rw [e1,c]),e1,e2,c]
theorem yD (h:GenL n l) (S:PS l (n.toNat+1) s):l.findSome? (iT (aE l) s)=none:=by
  have hn:=h.1
  refine lG (fun m hm=>?_)
  rcases Int.lt_or_le n (m:Int) with c | c
  · exact zK (zL h hm c)
  · exact tD h S (by omega) c hm
theorem wF (h:GenL n l) {j:Nat} (hj:(j:Int)≤n) (S:PS l j s) {p:Pose} (t:p.fTurn=Tn l j) (g:smP (20+20*(j:Int)) p):PS l (j+1) (eA s.1 (pI l j) p,eA s.2 (pI l j) true):=by
  obtain ⟨p1,p2⟩:=iS h hj
  have l1:=S.ok.len
  have l2:=S.ok.len2
  refine ⟨S.ok.set _ _,fun i h0 h1=>?_,fun k hk=>?_⟩
  · by_cases e:i=pI l j
    · subst e
      rw [lL _ p1 (by omega)]
      exact ⟨fun _=>⟨j,by omega,rfl⟩,fun _=>rfl⟩
    · rw [kC _ p1 h0 e,S.kn i h0 h1]
      constructor
      · rintro ⟨k,k1,k2⟩;exact ⟨k,by omega,k2⟩
      · rintro ⟨k,k1,k2⟩
        refine ⟨k,?_,k2⟩
        have:k≠j:=fun e'=>e (e' ▸ k2)
        omega
  · by_cases e:k=j
    · subst e
      rw [lL _ p1 (by omega)]
      exact ⟨t,g⟩
    · obtain ⟨q1,_⟩:=iS h (k:=k) (by omega)
      rw [kC _ p1 q1 (fun e'=>e (qD h (by omega) hj e'))]
      exact S.val k (by omega)
theorem qN (l:List Factor) (ns:List ByteArray) (s:List Pose × List Bool) (H:POk l ns s):bG l ns s=some (match l.findSome? (iT ns s) with | none=>.inr s | some x=>.inl (eA s.1 x.1 x.2,eA s.2 x.1 true)):=by
  obtain ⟨a,b⟩:=s
  unfold bG
  have e2:=sD l ns (a,b) H
  simp only at e2
  simp only [e2]
  cases hx:l.findSome? (iT ns (a,b)) with
  | none=>simp
  | some x=>simp
theorem rV (h:GenL n l):∀ (d j:Nat) (s:List Pose × List Bool),d+j=n.toNat+1→PS l j s→∃ v,lp (bG l (aE l)) s=some v∧PS l (n.toNat+1) v:=by
  have hn:=h.1
  intro d
  induction d with
  | zero =>
    intro j s hj S
    have:j=n.toNat+1:=by omega
    subst this
    refine ⟨s,dE ?_,S⟩
    rw [qN _ _ _ S.ok,yD h S]
  | succ d ih =>
    intro j s hj S
    have hj':(j:Int)≤n:=by omega
    obtain ⟨p,e1,e2,e3⟩:=wG h hj' S
    obtain ⟨v,e,q⟩:=ih (j+1) _ (by omega) (wF h hj' S e2 e3)
    refine ⟨v,?_,q⟩
    rw [fQ (s':=(eA s.1 (pI l j) p,eA s.2 (pI l j) true)),e]
    rw [qN _ _ _ S.ok,e1]
theorem wU (h:GenL n l):∃ v,cM l=some v∧PS l (n.toNat+1) v:=by
  have hfl:=sH h
  have hl:l.length≤8:=h.2.2.1
  have hs:=(iI h).2
  unfold cM
  rw [kA l (by omega) (mU h),dP l (by omega)]
  have S:PS l 0 (List.replicate ((aE l).length:Int).toNat ⟨0,0,0⟩,List.replicate ((aE l).length:Int).toNat false):=by
    refine ⟨yT hfl,fun i h0 h1=>⟨fun c=>?_,fun ⟨k,k1,_⟩=>by omega⟩,fun k hk=>by omega⟩
    have:=List.eq_of_mem_replicate (hP (d:=false) (l:=List.replicate ((aE l).length:Int).toNat false) h0 (by simpa using h1))
    simp only at c
    rw [this] at c;cases c
  obtain ⟨v,e,q⟩:=rV h (n.toNat+1) 0 _ (by omega) S
  refine ⟨v,?_,q⟩
  simp only [Option.bind_some,hfl,if_true]
  rw [aZ (by omega),aZ (by omega)]
  simp only [Option.bind_some,e]
end
end Go.Ev
/- The law of headings. -/
namespace Go.Ev
set_option linter.all false
theorem tX (l:List Int) (n:Int) (h:l.length≤4294967296):gK l n=some (decide (n ∈ l)):=by
  have main:∀ m k:Nat,m+k=l.length→lp (cF l n) (k:Int)=some (if n ∈ l.drop k then .inr true else .inl ()):=by
    intro m
    induction m with
    | zero =>
      intro k hk
      have:k=l.length:=by omega
      subst this
      rw [dE (r:=.inl ()) (by unfold cF;rw [if_neg (by omega)]),List.drop_length];simp
    | succ m ih =>
      intro k hk
      have hlt:k < l.length:=by omega
      rw [List.drop_eq_getElem_cons hlt]
      by_cases c:l[k]=n
      · rw [dE (r:=.inr true) (by unfold cF;rw [if_pos (by omega),cZ hlt];simp [c]),if_pos (by simp [c])]
      · have e:cF l n (k:Int)=some (.inl ((k:Int)+1)):=by
          unfold cF;rw [if_pos (by omega),cZ hlt,wi (by omega)];simp [c]
        rw [fQ e,show (k:Int)+1=((k+1:Nat):Int) by omega,ih (k+1) (by omega)]
        have:(n ∈ l[k]::l.drop (k+1))↔n ∈ l.drop (k+1):=by
          rw [List.mem_cons];exact ⟨fun h=>h.resolve_left (fun e=>c e.symm),.inr⟩
        simp only [this]
  have:=main l.length 0 (by omega)
  rw [show ((0:Nat):Int)=0 from rfl,List.drop_zero] at this
  unfold gK
  rw [this]
  by_cases c:n ∈ l <;> simp [c]
def idF (c:Int) (t:List Int) (y:Factor):List Int:=if y.fKind=c then t++[y.fId] else t
theorem aAx (l:List Factor) (c:Int) (hl:l.length≤1048576):eN l c=some (l.foldl (idF c) [])∧(l.foldl (idF c) []).length≤l.length:=by
  have e:=iG (step:=cX l c) l (fun k (t:List Int)=>((k:Int),t)) (idF c) (fun t=>t) (fun k t=>t.length≤k)
    (fun k t hk hi=>by
      refine ⟨?_,by
        unfold idF;split
        · simp only [List.length_append,List.length_singleton];omega
        · omega⟩
      unfold cX idF
      simp only []
      rw [if_pos (by omega),cZ hk,wi (by omega),aZ (by omega)]
      simp only [Option.bind_some,aR]
      split <;> rfl)
    (fun t hi=>by unfold cX;simp only [];rw [if_neg (by omega)]) [] (by simp)
  rw [show ((0:Nat):Int)=0 from rfl] at e
  unfold eN
  rw [e.1]
  exact ⟨rfl,e.2⟩
theorem qX (c:Int):∀ (l:List Factor) (t:List Int) (x:Int),x ∈ t→x ∈ l.foldl (idF c) t
  | [],_,_,h=>h
  | f::l,t,x,h=>qX c l _ x (by unfold idF;split <;> simp [h])
theorem tI (c:Int):∀ (l:List Factor) (t:List Int) (y:Factor),y ∈ l→y.fKind=c→y.fId ∈ l.foldl (idF c) t
  | f::l,t,y,h,k=>by
    rw [List.foldl_cons]
    rcases List.mem_cons.1 h with rfl | h
    · exact qX c l _ _ (by unfold idF;rw [if_pos k];simp)
    · exact tI c l _ y h k
theorem mJ (ns:List ByteArray) (a:List Int):∀ (l:List Factor) (t:List Int) (x:Int),x ∈ l.foldl (dV ns a) t→x ∈ t∨∃ y ∈ l,mL ns a y=true∧x=y.fId
  | [],_,_,h=>.inl h
  | f::l,t,x,h=>by
    rcases mJ ns a l _ x h with h | ⟨y,hy,h1,h2⟩
    · unfold dV at h
      split at h
      · rename_i c
        rcases List.mem_append.1 h with h | h
        · exact .inl h
        · exact .inr ⟨f,by simp,c,List.mem_singleton.1 h⟩
      · exact .inl h
    · exact .inr ⟨y,by simp [hy],h1,h2⟩
theorem wV (l:List Factor) (hl:l.length≤1048577) (hf:∀ f ∈ l,oP f):∃ v,dX l=some v∧0≤v:=by
  unfold dX
  rw [kA l hl hf]
  by_cases h:qF l=true
  · obtain ⟨h1,h2,h3,h4⟩:=nY h
    simp only [Option.bind_some,h,if_true]
    have e2:=iG (step:=cJ l) l (fun k (t:Int)=>(t,(k:Int))) yE (fun t=>t) (fun k t=>0≤t∧t≤2000000*k)
      (fun k t hk hi=>by
        have hv:=(eO (h3 k hk)).2.2.1
        obtain ⟨_,_,b1,b2,b3,b4⟩:=hv
        have a1:=xO _ ⟨b1,b2⟩
        have a2:=xO _ ⟨b3,b4⟩
        refine ⟨?_,by unfold yE;split <;> omega⟩
        unfold cJ yE
        simp only []
        rw [if_pos (by omega),cZ hk]
        simp only [Option.bind_some,a1.1,a2.1]
        rw [wi (n:=(k:Int)+1) (by omega),wi (n:=sQ (l[k]).fPose.fX+_) (by omega),wi (by omega)]
        split <;> simp [aS])
      (fun t hi=>by unfold cJ;simp only [];rw [if_neg (by omega)]) 0 (by omega)
    rw [show ((0:Nat):Int)=0 from rfl] at e2
    rw [e2.1]
    exact ⟨_,rfl,e2.2.1⟩
  · exact ⟨0,by simp [h],Int.le_refl _⟩
section
variable {n:Int} {l:List Factor}
theorem uA (h:GenL n l) {v:List Int} (S:HS l (n.toNat+1) v) {y:Factor} (hy:y ∈ l) (c:mL (aE l) v y=true):y.fKind=4:=by
  have hn:=h.1
  obtain ⟨m,hm,rfl⟩:=List.getElem_of_mem hy
  have tt:∀ t:Int,0≤t→t≤3→(0+t).tmod 4=t:=fun t a b=>by
    rw [Int.zero_add];exact Int.tmod_eq_of_lt a (by omega)
  rcases Int.lt_or_le n (m:Int) with d | d
  · obtain ⟨_,_,_,i,_,_,e⟩:=(h.2.2.2 m hm).2 d
    rcases e with ⟨e,_⟩ | ⟨e,_⟩
    · exact e
    · unfold mL at c
      rw [decide_eq_false (p:=(l[m]).fKind≠3) (by omega)] at c
      simp at c
  · exfalso
    cases m with
    | zero =>
      obtain ⟨h0,k,e,g,_⟩:=pB h
      have v0:=S.val 0 (by omega)
      have t:=tt _ g.1 g.2
      unfold mL at c
      rw [e,if_pos k,v0,Tn,mA h0,t] at c
      simp at c
    | succ m =>
      obtain ⟨h0,k,e1,e2,g⟩:=pA h d
      have v1:=S.val m (by omega)
      have v2:=S.val (m+1) (by omega)
      unfold mL at c
      rw [e1,e2,if_neg (by omega),v1,v2,Tn,mA h0] at c
      simp at c
theorem sA {ns:List ByteArray} (h:0 < ns.length):aK ns ns[0]=0:=by
  unfold aK
  cases ns with
  | nil=>simp at h
  | cons x t=>simp [List.findIdx?_cons]
theorem wO (h:GenL n l) {v:List Int} (hv:aY l=some v) (S:HS l (n.toNat+1) v) (h0:0 < (aE l).length):eM l (aE l)[0]=some (atI 0 v 0):=by
  have hl:l.length≤8:=h.2.2.1
  have hs:=(iI h).2
  have e:=S.ok.len
  unfold eM
  rw [hv,dP l (by omega)]
  simp only [Option.bind_some,nP (aE l) _ (show (aE l).length≤4194304 by omega),sA h0]
  rw [if_neg (by omega)]
  simp only [Option.bind_some]
  rw [decide_eq_false (by omega),if_neg (by simp),fF 0 (by omega) (by omega)]
  rfl
theorem zJ (h:GenL n l) {v:List Int} (hv:aY l=some v) (S:HS l (n.toNat+1) v):bF l=some (l.foldl (dV (aE l) v) []):=by
  have hl:l.length≤8:=h.2.2.1
  unfold bF
  rw [kA l (by omega) (mU h),dP l (by omega),hv]
  simp only [Option.bind_some,sH h,if_true,uG l _ v S.ok]
end
theorem uY (code:List Int) (_:okL (okI .u8) code):fA code=some true:=by
  unfold fA
  split
  · rfl
  rename_i hc
  obtain ⟨l,n,e0,h⟩:=yV code (by omega)
  have hn:=h.1
  have hl:l.length≤8:=h.2.2.1
  obtain ⟨v,e1,S⟩:=xE h
  obtain ⟨s,e2,P⟩:=wU h
  have hs:=(iI h).2
  have h0:0 < (aE l).length:=by
    have:=(iS h (k:=0) (by omega));omega
  have k1:=S.ok.len
  have k2:=P.ok.len
  have k3:=P.ok.len2
  rw [e0]
  simp only [Option.bind_some,e1,e2,dP l (show l.length≤1048577 by omega)]
  rw [if_neg (by omega),if_neg (by omega),if_neg (by omega),decide_eq_false (by omega)]
  simp only [Option.bind_some,Bool.false_eq_true,if_false]
  have f1:=nW (step:=cH (aE l) s v) (aE l).length (fun _=>false) false (fun k hk=>by
    unfold cH
    rw [if_pos (by omega),wi (by omega),fF (i:=(k:Int)) false (by omega) (by omega),fF (i:=(k:Int)) 0 (by omega) (by omega),fF (i:=(k:Int)) ⟨0,0,0⟩ (by omega) (by omega)]
    have a1:=S.kn (k:Int) (by omega) (by omega)
    have a2:=P.kn (k:Int) (by omega) (by omega)
    simp only [Option.bind_some]
    by_cases c:atI false s.2 (k:Int)=true
    · obtain ⟨m,m1,m2⟩:=a2.1 c
      have c2:=a1.2 ⟨m,m1,m2⟩
      have b1:=S.val m m1
      have b2:=(P.val m m1).1
      rw [← m2] at b1 b2
      rw [c,decide_eq_true c2,b1,b2]
      simp
    · have c2:¬0≤atI 0 v (k:Int):=fun x=>c (a2.2 (a1.1 x))
      rw [decide_eq_false c2]
      simp only [Bool.not_eq_true] at c
      rw [c]
      simp) (by unfold cH;rw [if_neg (by omega)])
  rw [f1]
  simp only [List.any_eq_true,Bool.false_eq_true,and_false,exists_false,if_false,Option.bind_some,zJ h e1 S]
  obtain ⟨i1,i2⟩:=aAx l 4 (by omega)
  obtain ⟨_,i4⟩:=uF l _ v S.ok
  have f2:=nW (step:=cG (l.foldl (dV (aE l) v) []) l) (l.foldl (dV (aE l) v) []).length (fun _=>false) false (fun k hk=>by
    unfold cG
    rw [if_pos (by omega),wi (by omega),cZ hk]
    simp only [Option.bind_some,i1]
    rw [tX _ _ (by omega)]
    have:(l.foldl (dV (aE l) v) [])[k] ∈ l.foldl (idF 4) []:=by
      rcases mJ _ _ l [] _ (List.getElem_mem hk) with h1 | ⟨y,hy,h1,h2⟩
      · cases h1
      · rw [h2];exact tI 4 l [] y hy (uA h S hy h1)
    simp [this]) (by unfold cG;rw [if_neg (by omega)])
  rw [f2]
  obtain ⟨w,p1,p2⟩:=wV l (by omega) (mU h)
  simp only [List.any_eq_true,Bool.false_eq_true,and_false,exists_false,if_false,Option.bind_some,p1]
  rw [if_pos p2,show idx (aE l) 0=some (aE l)[0] from cZ h0]
  simp only [Option.bind_some,wO h e1 S h0]
  rw [fF 0 (by omega) (by omega)]
  simp
end Go.Ev
