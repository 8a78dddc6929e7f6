/- Parts PX1, P1, P2, P5, P3, P6, PX2, PY1, PY2, PY3, PY4, PY5, PY6, PY7, PY8. -/
import Derived.Test.YtfloffdjklhooaaDoorPa1
import Derived.Test.YtfloffdjklhooaaDoorLd
import Derived.Lib.ItoaNum
import Derived.Lib.AtoiAllCases
set_option linter.all false
/- Numbers in decimal: the reference's text is that of strconv.Itoa. -/
namespace Go.Ev
set_option linter.all false
open Go.Lib (decDigits itoa)
def aW (l:List UInt8):ByteArray:=⟨l.toArray⟩
theorem kM (a b:List UInt8):aW a++aW b=aW (a++b):=by
  apply ByteArray.ext
  simp [aW]
theorem aI (l:List UInt8):(aW l).size=l.length:=by simp [aW,ByteArray.size]
theorem gU (k:Nat):jN ((k:Nat):Int)=aW [UInt8.ofNat k]:=rfl
theorem fL {u:Nat} (h:u < 10):decDigits u=[UInt8.ofNat (48+u)]:=by rw [decDigits,dif_pos h]
theorem jZ {u:Nat} (h:¬u < 10):decDigits u=decDigits (u / 10)++[UInt8.ofNat (48+u % 10)]:=by rw [decDigits,dif_neg h]
theorem tO {n:Int} (h:0≤n∧n≤255):IntKind.u8.wrap n=n:=by
  show (n % 256:Int)=n
  omega
theorem iQ:∀ (m u:Nat),u < 10 ^ (m+1)→(decDigits u).length≤m+1
  | 0,u,h=>by rw [fL (by simpa using h)];simp
  | m+1,u,h=>by
    by_cases c:u < 10
    · rw [fL c];simp
    · rw [jZ c,List.length_append,List.length_singleton]
      have:=iQ m (u / 10) (by rw [Nat.pow_succ] at h;omega)
      omega
theorem pM:∀ (m u:Nat) (s:List UInt8),u < 10 ^ (m+1)→u < 9223372036854775808→s.length+m≤100 →
    ∃ (d:Nat) (s':List UInt8),lp cM ((u:Int),aW s)=some ((d:Int),aW s')∧d < 10∧s'.length≤100∧[UInt8.ofNat (48+d)]++s'=decDigits u++s
  | m,u,s,h,h2,hs=>by
    by_cases c:u < 10
    · refine ⟨u,s,bP ?_,c,by omega,by rw [fL c]⟩
      unfold cM
      simp only []
      rw [if_neg (by omega)]
    · cases m with
      | zero=>simp at h;omega
      | succ m =>
        obtain ⟨d,s',e,h3,h4,h5⟩:=pM m (u / 10) ([UInt8.ofNat (48+u % 10)]++s) (by rw [Nat.pow_succ] at h;omega) (by omega) (by simp;omega)
        refine ⟨d,s',?_,h3,h4,by rw [h5,jZ c];simp⟩
        rw [dB (s':=(((u / 10:Nat):Int),aW ([UInt8.ofNat (48+u % 10)]++s))),e]
        have t1:(u:Int).tmod 10=((u % 10:Nat):Int):=rfl
        have t2:(u:Int).tdiv 10=((u / 10:Nat):Int):=rfl
        unfold cM
        simp only []
        rw [if_pos (by omega),t1,t2,wi (n:=48+((u % 10:Nat):Int)) (by omega),wi (n:=((u / 10:Nat):Int)) (by omega)]
        simp only [dH,Option.bind_some]
        rw [show (48+((u % 10:Nat):Int))=((48+u % 10:Nat):Int) by omega,tO (by omega),gU,eY (by rw [aI,aI];simp;omega),kM]
        rfl
theorem uD (k u:Nat) (h:u < 9223372036854775808):bD (k+1) (u:Int)=some (aW (decDigits u)):=by
  show cC (bD k) (u:Int)=_
  obtain ⟨d,s',e,h3,h4,h5⟩:=pM 18 u [] (by omega) h (by simp)
  unfold cC
  rw [if_neg (by omega),show (⟨#[]⟩:ByteArray)=aW [] from rfl,e]
  simp only [Option.bind_some,dH]
  rw [wi (by omega),tO (by omega),show (48+(d:Int))=((48+d:Nat):Int) by omega,gU,eY (by rw [aI,aI];simp;omega),kM,h5]
  simp
theorem rG:∀ (m k u:Nat),m≤k→1≤u→u < 10 ^ m→m≤19→u≤9223372036854775808→bD k (-(u:Int))=some (aW (45::decDigits u))
  | 0,_,u,_,h1,h2,_,_=>by simp at h2;omega
  | m+1,0,_,hk,_,_,_,_=>by omega
  | m+1,k+1,u,hk,h1,h2,hm,h3=>by
    have t1:(-(u:Int)).tmod 10=-((u % 10:Nat):Int):=by rw [Int.neg_tmod];rfl
    have t2:(-(u:Int)).tdiv 10=-((u / 10:Nat):Int):=by rw [Int.neg_tdiv];rfl
    show cC (bD k) (-(u:Int))=_
    unfold cC
    rw [if_pos (by omega),t1,t2,wi (n:=-((u / 10:Nat):Int)) (by omega)]
    by_cases c:u < 10
    · rw [if_pos (by omega),wi (by omega),tO (by omega)]
      simp only [Option.bind_some,dH]
      rw [show (48 - -(u:Int))=((48+u:Nat):Int) by omega,gU,show (⟨#[45]⟩:ByteArray)=aW [45] from rfl,eY (by rw [aI,aI];simp),kM,fL c]
      rfl
    · rw [if_neg (by omega),rG m k (u / 10) (by omega) (by omega) (by rw [Nat.pow_succ] at h2;omega) (by omega) (by omega),wi (by omega),tO (by omega)]
      simp only [Option.bind_some,dH]
      have hl:(decDigits (u / 10)).length≤18+1:=iQ 18 _ (by omega)
      rw [show (48 - -((u % 10:Nat):Int))=((48+u % 10:Nat):Int) by omega,gU,eY (by rw [aI,aI];simp;omega),kM,jZ c]
      rfl
theorem oG (a:Int) (h:-9223372036854775808≤a∧a≤9223372036854775807):bR a=some (aW (itoa a)):=by
  unfold itoa
  by_cases c:a < 0
  · rw [if_pos c]
    have:=rG 19 64 a.natAbs (by omega) (by omega) (by omega) (by omega) (by omega)
    rwa [show -((a.natAbs:Nat):Int)=a by omega] at this
  · rw [if_neg c]
    have:=uD 63 a.toNat (by omega)
    rwa [show ((a.toNat:Nat):Int)=a by omega] at this
theorem fK (a:Int) (h:-9223372036854775808≤a∧a≤9223372036854775807):(itoa a).length≤20:=by
  unfold itoa
  split
  · rw [List.length_cons]
    have:=iQ 18 a.natAbs (by omega)
    omega
  · have:=iQ 18 a.toNat (by omega)
    omega
end Go.Ev
/- Plain laws of the helpers of the exact laws: sizes, copies, comparisons, marks. -/
namespace Go.Ev
set_option linter.all false
def uY (f:Factor):Prop:=f.fFrom.size≤9223372036854775807∧f.fTo.size≤9223372036854775807
end Go.Ev
/- Plain laws: names, valid factors, lists of factors. -/
namespace Go.Ev
set_option linter.all false
theorem lS (s:ByteArray) (k:Nat) (h:k < s.size):cI s (k:Int)=some ((s.data.toList.getD k 0).toNat:Int):=by
  unfold cI;rw [if_pos ⟨by omega,by omega⟩];simp
end Go.Ev
/- Plain laws: names, valid factors, factor lists. -/
namespace Go.Ev
set_option linter.all false
section
variable {ρ:Type}
theorem qM {α:Type} {step:Int→Option (Int ⊕ (Unit ⊕ α))} (n:Nat) (bad:Nat→Bool) (x:α) (h1:∀ k:Nat,k < n→step (k:Int)=some (if bad k then .inr (.inr x) else .inl ((k+1:Nat):Int))) (h2:step (n:Int)=some (.inr (.inl ()))) :
    lp step 0=some (if (List.range n).any bad then .inr x else .inl ()):=by
  obtain ⟨r,e,q⟩:=rU (step:=step) n (fun r=>r=if (List.range n).any bad then .inr x else .inl ()) (fun k=>∀ i,i < k→bad i=false) (by intro i h;omega)
    (fun k hk hj=>by
      rw [h1 k hk]
      by_cases hb:bad k=true
      · right
        rw [if_pos hb]
        refine ⟨_,rfl,?_⟩
        rw [if_pos]
        exact List.any_eq_true.2 ⟨k,List.mem_range.2 hk,hb⟩
      · left
        rw [if_neg hb]
        refine ⟨rfl,fun i hi=>?_⟩
        by_cases e:i=k
        · subst e;exact Bool.eq_false_iff.2 hb
        · exact hj i (by omega))
    (fun hj=>by
      refine ⟨_,h2,?_⟩
      rw [if_neg]
      intro h
      obtain ⟨i,hi,hb⟩:=List.any_eq_true.1 h
      rw [hj i (List.mem_range.1 hi)] at hb
      exact Bool.noConfusion hb)
  rw [e,q]
end
def eB (p:Pose):Prop:=0≤p.fTurn∧p.fTurn≤3∧-1000000≤p.fX∧p.fX≤1000000∧-1000000≤p.fY∧p.fY≤1000000
instance (p:Pose):Decidable (eB p):=by unfold eB;infer_instance
theorem rX (x:Int):dW x=some (decide (-1000000≤x∧x≤1000000)):=by
  unfold dW
  by_cases h:-1000000≤x <;> simp [h]
theorem jQ (p:Pose):cB p=some (decide (eB p)):=by
  unfold cB cD eB
  by_cases h1:0≤p.fTurn <;> by_cases h2:p.fTurn≤3 <;> by_cases h3:-1000000≤p.fX <;> by_cases h4:p.fX≤1000000 <;> by_cases h5:-1000000≤p.fY <;> simp [h1,h2,h3,h4,h5]
theorem eK (p:Pose):bM p=some (decide (eB p)):=by
  unfold bM eB
  simp only [rX]
  by_cases h1:0≤p.fTurn <;> by_cases h2:p.fTurn≤3 <;> by_cases h3:-1000000≤p.fX <;> by_cases h4:p.fX≤1000000 <;> by_cases h5:-1000000≤p.fY <;> simp [h1,h2,h3,h4,h5]
def pV (s:ByteArray) (k:Nat):Bool :=
  !(decide ((97:Int)≤((s.data.toList.getD k 0).toNat:Int)∧((s.data.toList.getD k 0).toNat:Int)≤122))&&(decide (k=0)||!(decide ((48:Int)≤((s.data.toList.getD k 0).toNat:Int)∧((s.data.toList.getD k 0).toNat:Int)≤57)))
def hC (s:ByteArray):Bool:=decide (1≤s.size∧s.size≤8)&&!((List.range s.size).any (pV s))
theorem mA (s:ByteArray) (h:s.size≤9223372036854775807):eN s=some (hC s):=by
  unfold eN
  rw [qM (step:=dQ s) s.size (pV s) false
    (fun k hk=>by
      unfold dQ
      rw [if_pos (by omega),lS s k hk,wi (by omega)]
      simp only [Option.bind_some]
      unfold pV
      generalize ((s.data.toList.getD k 0).toNat:Int)=b
      by_cases h1:97≤b <;> by_cases h2:b≤122 <;> by_cases h3:k=0 <;> by_cases h4:b < 48 <;> by_cases h5:57 < b <;> first | (exfalso;omega) | (have h6:(48≤b)=(¬b < 48):=by simp) ;(have h7:(b≤57)=(¬57 < b):=by simp) ;simp only [h6,h7] ;simp [h1,h2,h3,h4,h5])
    (by unfold dQ;rw [if_neg (by omega)])]
  unfold hC cD
  by_cases hb:(List.range s.size).any (pV s)=true
  · simp [hb]
  · simp only [Bool.not_eq_true] at hb
    simp only [hb]
    by_cases h1:(1:Int)≤s.size
    · have:1≤s.size:=by omega
      by_cases h2:s.size≤8 <;> simp [h1,h2,this] <;> omega
    · have:¬1≤s.size:=by omega
      simp [h1,this]
theorem mT (s:ByteArray) (h:s.size≤9223372036854775807):eO s=some (hC s):=by
  unfold eO
  rw [qM (step:=dT s) s.size (pV s) false
    (fun k hk=>by
      unfold dT
      rw [if_pos (by omega),lS s k hk,wi (by omega)]
      simp only [Option.bind_some]
      unfold pV
      generalize ((s.data.toList.getD k 0).toNat:Int)=b
      by_cases h1:97≤b <;> by_cases h2:b≤122 <;> by_cases h3:k=0 <;> by_cases h4:48≤b <;> by_cases h5:b≤57 <;> simp [h1,h2,h3,h4,h5] <;> omega)
    (by unfold dT;rw [if_neg (by omega)])]
  unfold hC
  by_cases hb:(List.range s.size).any (pV s)=true
  · by_cases h1:(s.size:Int) < 1 <;> simp [hb,h1]
  · simp only [Bool.not_eq_true] at hb
    simp only [hb]
    by_cases h1:(s.size:Int) < 1 <;> by_cases h2:(8:Int) < s.size <;> simp [h1,h2] <;> omega
def cT (c:Nat) (s:ByteArray):Bool:=hC s&&decide ((s.data.toList.getD 0 0).toNat=c)
theorem iI {c:Nat} {s:ByteArray} (h:cT c s=true):s≠(⟨#[]⟩:ByteArray):=by
  rintro rfl
  have h:=(Bool.and_eq_true _ _ ▸ h:_∧_).1
  unfold hC at h
  simp only [Bool.and_eq_true,decide_eq_true_eq] at h
  exact absurd h.1.1 (by decide)
theorem nV {s:ByteArray} (h:hC s=true):0 < s.size:=by
  unfold hC at h
  simp only [Bool.and_eq_true,decide_eq_true_eq] at h
  omega
theorem gQ (s:ByteArray) (h:s.size≤9223372036854775807):bI s=some (cT 112 s)∧bJ s=some (cT 112 s):=by
  unfold bI bJ cT
  rw [mA s h,mT s h]
  by_cases hb:hC s=true
  · have e:=lS s 0 (nV hb)
    rw [show ((0:Nat):Int)=0 from rfl] at e
    simp only [Option.bind_some,hb,e,if_true,Bool.true_and]
    constructor <;> (congr 2;simp;omega)
  · simp [hb]
theorem iN (s:ByteArray) (h:s.size≤9223372036854775807):bX s=some (cT 109 s)∧bY s=some (cT 109 s):=by
  unfold bX bY cT
  rw [mA s h,mT s h]
  by_cases hb:hC s=true
  · have e:=lS s 0 (nV hb)
    rw [show ((0:Nat):Int)=0 from rfl] at e
    simp only [Option.bind_some,hb,e,if_true,Bool.true_and]
    constructor <;> (congr 2;simp;omega)
  · simp [hb]
def lD (f:Factor):Bool :=
  if f.fKind=1 then decide (f.fFrom=(⟨#[]⟩:ByteArray))&&cT 112 f.fTo
  else if f.fKind=2∨f.fKind=4 then cT 112 f.fFrom&&cT 112 f.fTo&&decide (f.fFrom≠f.fTo)
  else if f.fKind=3 then cT 112 f.fFrom&&cT 109 f.fTo&&decide (f.fPose.fTurn=0) else false
def cZ (f:Factor):Bool:=decide (0≤f.fId∧f.fId≤99999∧eB f.fPose∧1≤f.fWeight∧f.fWeight≤9999)&&lD f
theorem lX (f:Factor) (h:uY f):cF f=some (cZ f)∧bN f=some (cZ f):=by
  obtain ⟨h1,h2⟩:=h
  unfold cF bN
  simp only [(gQ _ h1).1,(gQ _ h1).2,(gQ _ h2).1,(gQ _ h2).2,(iN _ h2).1,(iN _ h2).2,jQ,eK,cD,Option.bind_some]
  have tail:∀ b1 b2 b3:Bool,((if f.fKind=1 then (if f.fFrom=(⟨#[]⟩:ByteArray) then some (cT 112 f.fTo) else some false) else ((if (f.fKind=2) then some (decide (f.fKind=2)) else some (decide (f.fKind=4))):Option Bool).bind (fun d9=>(if d9=true then (if cT 112 f.fFrom=true then (if cT 112 f.fTo=true then some (decide (f.fFrom≠f.fTo)) else some false) else some false) else (if (f.fKind=3) then (if cT 112 f.fFrom=true then (if cT 109 f.fTo=true then some (decide (f.fPose.fTurn=0)) else some false) else some false) else some false)))):Option Bool)=some (lD f):=by
    intro _ _ _
    unfold lD
    by_cases k1:f.fKind=1
    · rw [if_pos k1,if_pos k1];by_cases e:f.fFrom=(⟨#[]⟩:ByteArray) <;> simp [e]
    · rw [if_neg k1,if_neg k1]
      by_cases k2:f.fKind=2
      · simp only [k2,if_true,Option.bind_some,decide_true,true_or]
        cases cT 112 f.fFrom <;> cases cT 112 f.fTo <;> simp
      · by_cases k4:f.fKind=4
        · simp only [k4,if_true,Option.bind_some,decide_true,or_true]
          cases cT 112 f.fFrom <;> cases cT 112 f.fTo <;> simp
        · simp only [k2,k4,if_false,Option.bind_some,decide_false,or_self]
          by_cases k3:f.fKind=3
          · simp only [k3,if_true];cases cT 112 f.fFrom <;> cases cT 109 f.fTo <;> simp
          · simp [k3]
  have t:=tail true true true
  constructor
  · by_cases a:0≤f.fId∧f.fId≤99999∧eB f.fPose∧1≤f.fWeight∧f.fWeight≤9999
    · have e:cZ f=lD f:=by unfold cZ;rw [decide_eq_true a];rfl
      rw [e,← t]
      obtain ⟨a1,a2,a3,a4,a5⟩:=a
      simp [a1,a2,a3,a4,a5]
    · have e:cZ f=false:=by unfold cZ;rw [decide_eq_false a];rfl
      rw [e]
      by_cases a1:0≤f.fId <;> by_cases a2:f.fId≤99999 <;> by_cases a3:eB f.fPose <;> by_cases a4:1≤f.fWeight <;> by_cases a5:f.fWeight≤9999 <;> first | (exfalso;exact a ⟨a1,a2,a3,a4,a5⟩) | simp [a1,a2,a3,a4,a5]
  · by_cases a:0≤f.fId∧f.fId≤99999∧eB f.fPose∧1≤f.fWeight∧f.fWeight≤9999
    · have e:cZ f=lD f:=by unfold cZ;rw [decide_eq_true a];rfl
      rw [e,← t]
      obtain ⟨a1,a2,a3,a4,a5⟩:=a
      rw [if_neg (by omega),if_neg (by omega),decide_eq_true a3,if_pos rfl,if_neg (by omega)]
      simp only [Option.bind_some]
      rw [decide_eq_false (by omega)]
      simp
    · have e:cZ f=false:=by unfold cZ;rw [decide_eq_false a];rfl
      rw [e]
      by_cases a1:f.fId < 0
      · simp [a1]
      by_cases a2:99999 < f.fId
      · simp [a1,a2]
      by_cases a3:eB f.fPose
      · by_cases a4:f.fWeight < 1
        · simp [a1,a2,a3,a4]
        · by_cases a5:9999 < f.fWeight
          · simp [a1,a2,a3,a4,a5]
          · exfalso;exact a ⟨by omega,by omega,a3,by omega,by omega⟩
      · simp [a1,a2,a3]
end Go.Ev
/- Plain laws: marks of texts and of factors. -/
namespace Go.Ev
set_option linter.all false
end Go.Ev
/- Plain laws: lists of factors, indices of names. -/
namespace Go.Ev
set_option linter.all false
theorem lE {f:Factor} (h:cZ f=true):0≤f.fId∧f.fId≤99999∧eB f.fPose∧1≤f.fWeight∧f.fWeight≤9999∧f.fTo≠(⟨#[]⟩:ByteArray)∧(f.fKind=1∨f.fKind=2∨f.fKind=3∨f.fKind=4)∧(f.fKind=1→f.fFrom=(⟨#[]⟩:ByteArray))∧(f.fKind≠1→f.fFrom≠(⟨#[]⟩:ByteArray))∧(f.fKind=2∨f.fKind=4→f.fFrom≠f.fTo):=by
  unfold cZ at h
  simp only [Bool.and_eq_true,decide_eq_true_eq] at h
  obtain ⟨⟨h1,h2,h3,h4,h5⟩,h6⟩:=h
  refine ⟨h1,h2,h3,h4,h5,?_⟩
  unfold lD at h6
  by_cases k1:f.fKind=1
  · rw [if_pos k1] at h6
    simp only [Bool.and_eq_true,decide_eq_true_eq] at h6
    exact ⟨iI h6.2,.inl k1,fun _=>h6.1,fun h=>absurd k1 h,fun h=>by omega⟩
  · rw [if_neg k1] at h6
    by_cases k2:f.fKind=2∨f.fKind=4
    · rw [if_pos k2] at h6
      simp only [Bool.and_eq_true,decide_eq_true_eq] at h6
      exact ⟨iI h6.1.2,by omega,fun h=>absurd h k1,fun _=>iI h6.1.1,fun _=>h6.2⟩
    · rw [if_neg k2] at h6
      by_cases k3:f.fKind=3
      · rw [if_pos k3] at h6
        simp only [Bool.and_eq_true,decide_eq_true_eq] at h6
        exact ⟨iI h6.1.2,by omega,fun h=>absurd h k1,fun _=>iI h6.1.1,fun h=>absurd h k2⟩
      · rw [if_neg k3] at h6;cases h6
end Go.Ev
/- Factors as text: the law of FormatFactor. -/
namespace Go.Ev
set_option linter.all false
open Go.Lib (decDigits itoa)
theorem bA {a b:ByteArray} {β:Type} {k:ByteArray→Option β} (h:a.size+b.size≤9223372036854775807):(chk (a.size+b.size≤9223372036854775807)).bind (fun _=>(bL (a++b)).bind k)=k (a++b):=by
  rw [eY h];rfl
theorem kG {c:Nat} {s:ByteArray} (h:cT c s=true):s.size≤8:=by
  unfold cT hC at h
  simp only [Bool.and_eq_true,decide_eq_true_eq] at h
  exact h.1.1.2
theorem oT (a:Int) (h:-9223372036854775808≤a∧a≤9223372036854775807):bS a=some (aW (itoa a)):=by
  unfold bS gN
  rw [eY h];rfl
def nK (t:Int):ByteArray:=if t=0 then ⟨#[101]⟩ else if t=1 then ⟨#[110]⟩ else if t=2 then ⟨#[119]⟩ else ⟨#[115]⟩
theorem uS (t:Int) (h:0≤t∧t≤3):idx ([(⟨#[101]⟩:ByteArray),(⟨#[110]⟩:ByteArray),(⟨#[119]⟩:ByteArray),(⟨#[115]⟩:ByteArray)]) t=some (nK t)∧eQ (⟨#[101,110,119,115]⟩:ByteArray) t (IntKind.i64.wrap (t+1))=some (nK t)∧(nK t).size=1:=by
  rw [wi (by omega)]
  rcases (show t=0∨t=1∨t=2∨t=3 by omega) with rfl | rfl | rfl | rfl <;> exact ⟨by decide,by decide,by decide⟩
def dR (p:Pose):ByteArray:=aW (itoa p.fX)++⟨#[44]⟩++aW (itoa p.fY)++⟨#[44]⟩++nK p.fTurn
theorem nC (p:Pose) (h:eB p):aY p=some (dR p)∧bK p=some (dR p)∧(dR p).size≤43:=by
  have hv:=h
  obtain ⟨h1,h2,h3,h4,h5,h6⟩:=h
  have lx:=fK p.fX (by omega)
  have ly:=fK p.fY (by omega)
  obtain ⟨t1,t2,t3⟩:=uS p.fTurn ⟨h1,h2⟩
  have z:(⟨#[44]⟩:ByteArray).size=1:=rfl
  refine ⟨?_,?_,?_⟩
  · unfold aY
    rw [jQ,decide_eq_true hv]
    simp only [Option.bind_some,if_true,oG p.fX (by omega),oG p.fY (by omega),t1]
    rw [bA,bA,bA,bA]
    · rfl
    all_goals simp only [ByteArray.size_append,aI,z,t3];omega
  · unfold bK
    rw [eK,decide_eq_true hv]
    simp only [Option.bind_some,if_true,oT p.fX (by omega),oT p.fY (by omega),t2]
    rw [bA,bA,bA,bA]
    · rfl
    all_goals simp only [ByteArray.size_append,aI,z,t3];omega
  · unfold dR
    simp only [ByteArray.size_append,aI,z,t3];omega
def gZ (k:Int):ByteArray:=if k=1 then ⟨#[112,114,105,111,114]⟩ else if k=2 then ⟨#[111,100,111,109,101,116,114,121]⟩ else if k=3 then ⟨#[108,97,110,100,109,97,114,107]⟩ else ⟨#[108,111,111,112]⟩
theorem uR (k:Int) (h:k=1∨k=2∨k=3∨k=4):idx ([(⟨#[]⟩:ByteArray),(⟨#[112,114,105,111,114,32]⟩:ByteArray),(⟨#[111,100,111,109,101,116,114,121,32]⟩:ByteArray),(⟨#[108,97,110,100,109,97,114,107,32]⟩:ByteArray),(⟨#[108,111,111,112,32]⟩:ByteArray)]) k=some (gZ k++⟨#[32]⟩)∧eD k=some (gZ k)∧(gZ k).size≤8:=by
  unfold eD gZ
  rcases h with rfl | rfl | rfl | rfl <;> exact ⟨by decide,by decide,by decide⟩
def eW (f:Factor):ByteArray:=gZ f.fKind++⟨#[32]⟩++aW (itoa f.fId)++(if f.fKind=1 then ⟨#[]⟩ else ⟨#[32]⟩++f.fFrom)++⟨#[32]⟩++f.fTo++⟨#[32]⟩++dR f.fPose++⟨#[32]⟩++aW (itoa f.fWeight)
theorem mU {f:Factor} (h:cZ f=true):f.fFrom.size≤8∧f.fTo.size≤8:=by
  unfold cZ at h
  simp only [Bool.and_eq_true,decide_eq_true_eq] at h
  obtain ⟨_,h⟩:=h
  unfold lD at h
  split at h
  · simp only [Bool.and_eq_true,decide_eq_true_eq] at h
    exact ⟨by rw [h.1];decide,kG h.2⟩
  · split at h
    · simp only [Bool.and_eq_true,decide_eq_true_eq] at h
      exact ⟨kG h.1.1,kG h.1.2⟩
    · split at h
      · simp only [Bool.and_eq_true,decide_eq_true_eq] at h
        exact ⟨kG h.1.1,kG h.1.2⟩
      · cases h
theorem pW (b:ByteArray):b++(⟨#[]⟩:ByteArray)=b:=by
  apply ByteArray.ext
  simp
theorem tL (f:Factor) (h:cZ f=true):aX f=some (eW f)∧bH f=some (eW f):=by
  obtain ⟨s1,s2⟩:=mU h
  have hb:uY f:=⟨by omega,by omega⟩
  obtain ⟨v1,v2⟩:=lX f hb
  obtain ⟨g1,g2,g3,g4,g5,g6,g7,g8,g9,_⟩:=lE h
  obtain ⟨p1,p2,p3⟩:=nC f.fPose g3
  obtain ⟨w1,w2,w3⟩:=uR f.fKind g7
  have li:=fK f.fId (by omega)
  have lw:=fK f.fWeight (by omega)
  have z:(⟨#[32]⟩:ByteArray).size=1:=rfl
  unfold aX bH eW
  rw [v1,v2,h]
  simp only [Option.bind_some,if_true,oG f.fId (by omega),oG f.fWeight (by omega),oT f.fId (by omega),oT f.fWeight (by omega),p1,p2,w1,w2]
  by_cases k:f.fKind=1
  · have e:=g8 k
    simp only [e,ne_eq,not_true,if_false,if_true,k,Option.bind_some] at *
    refine ⟨?_,?_⟩
    · rw [bA,bA,bA,bA,bA,bA,bA]
      · simp only [ByteArray.append_assoc,pW]
      all_goals simp only [ByteArray.size_append,aI,z];omega
    · rw [bA,bA,bA,bA,bA,bA,bA,bA]
      · simp only [← ByteArray.append_assoc,pW]
      all_goals simp only [ByteArray.size_append,aI,z];omega
  · have e:=g9 k
    simp only [ne_eq,e,not_false_eq_true,if_false,if_true,k]
    refine ⟨?_,?_⟩
    · rw [bA,bA,bA,bA]
      · simp only [Option.bind_some]
        rw [bA,bA,bA,bA,bA]
        · simp only [← ByteArray.append_assoc]
        all_goals simp only [ByteArray.size_append,aI,z];omega
      all_goals simp only [ByteArray.size_append,aI,z];omega
    · rw [bA,bA,bA,bA]
      · simp only [Option.bind_some]
        rw [bA,bA,bA,bA,bA,bA]
        all_goals simp only [ByteArray.size_append,aI,z];omega
      all_goals simp only [ByteArray.size_append,aI,z];omega
theorem tK (f:Factor) (hb:uY f) (h:cZ f=false):aX f=some (⟨#[]⟩:ByteArray)∧bH f=some (⟨#[]⟩:ByteArray):=by
  obtain ⟨v1,v2⟩:=lX f hb
  unfold aX bH
  rw [v1,v2,h]
  exact ⟨rfl,rfl⟩
end Go.Ev
/- Texts split at a byte. -/
namespace Go.Ev
set_option linter.all false
def seg (s:ByteArray) (a b:Nat):ByteArray:=aW ((s.data.toList.take b).drop a)
theorem dN (s:ByteArray):s.data.toList.length=s.size:=rfl
theorem kP (s:ByteArray) (a b:Nat) (h1:a≤b) (h2:b≤s.size):eQ s (a:Int) (b:Int)=some (seg s a b):=by
  unfold eQ seg aW
  rw [if_pos (by omega)]
  congr 1
  apply ByteArray.ext
  apply Array.ext'
  simp [ByteArray.data_extract,Array.toList_extract]
  rw [List.drop_take]
theorem oD (s:ByteArray):aW s.data.toList=s:=by
  apply ByteArray.ext
  simp [aW]
def spL (c:UInt8):List UInt8→List (List UInt8)
  | []=>[[]]
  | x::l=>if x=c then []::spL c l else match spL c l with | []=>[[x]] | w::ws=>(x::w)::ws
def nG (p:List UInt8):List (List UInt8)→List (List UInt8)
  | []=>[p]
  | w::ws=>(p++w)::ws
theorem qE (c:UInt8):∀ l,spL c l≠[]
  | []=>by simp [spL]
  | x::l=>by
    unfold spL
    split
    · simp
    · split <;> simp
theorem sS (c:UInt8) (p l:List UInt8):nG p (spL c (c::l))=p::nG [] (spL c l):=by
  have:=qE c l
  cases h:spL c l with
  | nil=>exact absurd h this
  | cons w ws=>simp [spL,nG,h]
theorem rR (c x:UInt8) (hx:x≠c) (p l:List UInt8):nG p (spL c (x::l))=nG (p++[x]) (spL c l):=by
  have:=qE c l
  cases h:spL c l with
  | nil=>exact absurd h this
  | cons w ws=>simp [spL,nG,h,hx]
theorem nQ (c:UInt8) (l:List UInt8):nG [] (spL c l)=spL c l:=by
  have:=qE c l
  cases h:spL c l with
  | nil=>exact absurd h this
  | cons w ws=>simp [nG]
theorem nL (s:ByteArray) (c:UInt8) (step:(Int × Int × List ByteArray)→Option ((Int × Int × List ByteArray) ⊕ (Int × List ByteArray)))
    (h1:∀ (a i:Nat) (out:List ByteArray) (hi:i < s.size),a≤i→out.length≤i→step ((a:Int),(i:Int),out)=some (.inl (if s.data.toList[i]'(by rw [dN];exact hi)=c then (((i+1:Nat):Int),((i+1:Nat):Int),out++[seg s a i]) else ((a:Int),((i+1:Nat):Int),out))))
    (h2:∀ (a:Nat) (out:List ByteArray),step ((a:Int),(s.size:Int),out)=some (.inr ((a:Int),out))) :
    ∀ (n a i:Nat) (out:List ByteArray),n+i=s.size→a≤i→out.length≤i→∃ (a':Nat) (out':List ByteArray),lp step ((a:Int),(i:Int),out)=some ((a':Int),out')∧a'≤s.size∧out'.length≤s.size ∧
      out'++[seg s a' s.size]=out++(nG ((s.data.toList.take i).drop a) (spL c (s.data.toList.drop i))).map aW:=by
  intro n
  induction n with
  | zero =>
    intro a i out hi ha ho
    have:i=s.size:=by omega
    subst this
    refine ⟨a,out,bP (h2 a out),by omega,by omega,?_⟩
    rw [show s.data.toList.drop s.size=[] by rw [List.drop_eq_nil_iff,dN];exact Nat.le_refl _]
    simp [spL,nG,seg]
  | succ n ih =>
    intro a i out hi ha ho
    have hlt:i < s.size:=by omega
    have hl:i < s.data.toList.length:=by rw [dN];exact hlt
    rw [dB (h1 a i out hlt ha ho),List.drop_eq_getElem_cons hl]
    by_cases e:s.data.toList[i]=c
    · rw [if_pos e]
      obtain ⟨a',out',q1,q2,q3,q4⟩:=ih (i+1) (i+1) (out++[seg s a i]) (by omega) (by omega) (by simp;omega)
      refine ⟨a',out',q1,q2,q3,?_⟩
      rw [q4,e,sS]
      simp [seg,List.drop_take]
    · rw [if_neg e]
      obtain ⟨a',out',q1,q2,q3,q4⟩:=ih a (i+1) out (by omega) (by omega) (by omega)
      refine ⟨a',out',q1,q2,q3,?_⟩
      rw [q4,rR _ _ e]
      congr 3
      rw [List.take_add_one,List.getElem?_eq_getElem hl,List.drop_append_of_le_length (by simp;omega)]
      rfl
end Go.Ev
/- Both programs split alike. -/
namespace Go.Ev
set_option linter.all false
theorem iC (s:ByteArray) (i:Nat) (h:i < s.size):cI s (i:Int)=some (((s.data.toList[i]'(by rw [dN];exact h)).toNat:Nat):Int):=by
  unfold cI
  rw [if_pos (by omega)]
  congr 2
  rw [show ((i:Int)).toNat=i by omega,List.getD_eq_getElem?_getD,List.getElem?_eq_getElem (by rw [dN];exact h)]
  rfl
theorem uL (a b:UInt8):((a.toNat:Nat):Int)=((b.toNat:Nat):Int)↔a=b:=by
  constructor
  · intro h;exact UInt8.toNat_inj.1 (by omega)
  · intro h;rw [h]
theorem rY (c b:UInt8):eV (⟨#[c]⟩:ByteArray) ((b.toNat:Nat):Int)=some (decide (b=c)):=by
  have z:(⟨#[c]⟩:ByteArray).size=1:=rfl
  have at0:cI (⟨#[c]⟩:ByteArray) 0=some ((c.toNat:Nat):Int):=rfl
  unfold eV
  by_cases e:b=c
  · rw [bP (r:=.inr true) (by unfold dE;rw [if_pos (by rw [z];omega),at0];simp [e])]
    simp [e]
  · have e':¬((c.toNat:Nat):Int)=((b.toNat:Nat):Int):=fun h=>e ((uL _ _).1 h).symm
    rw [dB (s':=1) (by unfold dE;rw [if_pos (by rw [z];omega),at0];simp only [Option.bind_some,e',if_false];rw [wi (by omega)];rfl)]
    rw [bP (r:=.inl ()) (by unfold dE;rw [if_neg (by rw [z];omega)])]
    simp [e]
theorem lP (s:ByteArray) (c:UInt8) (hs:s.size≤1048576):dI s (⟨#[c]⟩:ByteArray)=some ((spL c s.data.toList).map aW):=by
  obtain ⟨a',out',q1,q2,q3,q4⟩:=nL s c (cW s (⟨#[c]⟩:ByteArray)) (fun a i out hi ha ho=>by
      unfold cW
      simp only []
      rw [if_pos (by omega),iC s i hi,wi (n:=(i:Int)+1) (by omega)]
      simp only [Option.bind_some,rY]
      by_cases e:s.data.toList[i]'(by rw [dN];exact hi)=c
      · simp only [e,decide_true,if_true]
        rw [kP s a i ha (by omega),eY (by omega)]
        rfl
      · simp only [e,decide_false,if_false,Bool.false_eq_true]
        rfl) (fun a out=>by unfold cW;simp only [];rw [if_neg (by omega)]) s.size 0 0 [] (by omega) (by omega) (by simp)
  unfold dI
  rw [show ((0:Int),(0:Int),([]:List ByteArray))=(((0:Nat):Int),((0:Nat):Int),[]) from rfl,q1]
  simp only [Option.bind_some,dH]
  rw [kP s a' s.size q2 (Nat.le_refl _),eY (by omega)]
  simp only [Option.bind_some]
  rw [q4]
  simp [nQ]
theorem lO (s:ByteArray) (c:UInt8) (hs:s.size≤1048576):dF s (⟨#[c]⟩:ByteArray)=some ((spL c s.data.toList).map aW):=by
  have z:(⟨#[c]⟩:ByteArray).size=1:=rfl
  have at0:cI (⟨#[c]⟩:ByteArray) 0=some ((c.toNat:Nat):Int):=rfl
  obtain ⟨a',out',q1,q2,q3,q4⟩:=nL s c (cQ s (⟨#[c]⟩:ByteArray)) (fun a i out hi ha ho=>by
      unfold cQ
      simp only []
      rw [if_pos (by omega),wi (n:=(i:Int)+1) (by omega)]
      by_cases e:s.data.toList[i]'(by rw [dN];exact hi)=c
      · rw [bP (r:=((i:Int)+1,out++[seg s a i])) (by
          unfold cR
          rw [if_pos (by rw [z];omega),iC s i hi,at0]
          simp only [Option.bind_some,e,if_true]
          rw [kP s a i ha (by omega),eY (by omega),wi (by omega)]
          rfl)]
        rw [if_pos e];rfl
      · have e':¬(((s.data.toList[i]'(by rw [dN];exact hi)).toNat:Nat):Int)=((c.toNat:Nat):Int):=fun h=>e ((uL _ _).1 h)
        rw [dB (s':=1) (by
          unfold cR
          rw [if_pos (by rw [z];omega),iC s i hi,at0]
          simp only [Option.bind_some,e',if_false]
          rw [wi (by omega)];rfl)]
        rw [bP (r:=((a:Int),out)) (by unfold cR;rw [if_neg (by rw [z];omega)])]
        rw [if_neg e];rfl) (fun a out=>by unfold cQ;simp only [];rw [if_neg (by omega)]) s.size 0 0 [] (by omega) (by omega) (by simp)
  unfold dF
  rw [show ((0:Int),(0:Int),([]:List ByteArray))=(((0:Nat):Int),((0:Nat):Int),[]) from rfl,q1]
  simp only [Option.bind_some,dH]
  rw [kP s a' s.size q2 (Nat.le_refl _),eY (by omega)]
  simp only [Option.bind_some]
  rw [q4]
  simp [nQ]
def no (c:UInt8) (l:List UInt8):Prop:=∀ b ∈ l,b≠c
theorem kB (c:UInt8):∀ (w:List UInt8),no c w→spL c w=[w]
  | [],_=>rfl
  | x::w,h=>by
    have i:=kB c w (fun b hb=>h b (by simp [hb]))
    simp [spL,h x (by simp),i]
theorem eF (c:UInt8):∀ (w l:List UInt8),no c w→spL c (w++c::l)=w::spL c l
  | [],l,_=>by simp [spL]
  | x::w,l,h=>by
    have i:=eF c w l (fun b hb=>h b (by simp [hb]))
    rw [List.cons_append,spL,if_neg (h x (by simp)),i]
end Go.Ev
/- Numerals read back. -/
namespace Go.Ev
set_option linter.all false
open Go.Lib (decDigits itoa parseUint10 parseMag atoiAll NumEnd)
def Dig (l:List UInt8):Prop:=∀ b ∈ l,48≤b.toNat∧b.toNat≤57
theorem oC {d:Nat} (h:d < 10):(UInt8.ofNat (48+d)).toNat=48+d:=by
  rw [UInt8.toNat_ofNat'];omega
theorem kX (u:Nat):Dig (decDigits u):=by
  induction u using Nat.strongRecOn with
  | _ u ih =>
    intro b hb
    by_cases c:u < 10
    · rw [fL c,List.mem_singleton] at hb
      subst hb
      rw [oC c];omega
    · rw [jZ c,List.mem_append,List.mem_singleton] at hb
      rcases hb with hb | rfl
      · exact ih (u / 10) (by omega) b hb
      · rw [oC (by omega)];omega
theorem pT (u:Nat):decDigits u≠[]:=by
  by_cases c:u < 10
  · rw [fL c];simp
  · rw [jZ c];simp
theorem nU (b:List UInt8):∀ (a:List UInt8) (acc n:Nat),parseUint10 acc a=.ok n→parseUint10 acc (a++b)=parseUint10 n b
  | [],acc,n,h=>by simp only [parseUint10] at h;injection h with h;rw [h];rfl
  | c::r,acc,n,h=>by
    simp only [parseUint10] at h
    rw [List.cons_append]
    simp only [parseUint10]
    split at h
    · split at h
      · cases h
      · split at h
        · cases h
        · rename_i h1 h2 h3
          rw [if_pos h1,if_neg h2,if_neg h3]
          exact nU b r _ n h
    · cases h
theorem pJ (u:Nat) (h:u < 10000000000000000000):parseUint10 0 (decDigits u)=.ok u:=by
  induction u using Nat.strongRecOn with
  | _ u ih =>
    by_cases c:u < 10
    · rw [fL c]
      simp only [parseUint10]
      rw [oC c,if_pos (by omega),if_neg (by omega),if_neg (by omega)]
      congr 1;omega
    · rw [jZ c,nU _ _ _ _ (ih (u / 10) (by omega) (by omega))]
      simp only [parseUint10]
      rw [oC (by omega),if_pos (by omega),if_neg (by omega),if_neg (by omega)]
      congr 1;omega
theorem sE (v:Int) (h:-9223372036854775808≤v∧v≤9223372036854775807):atoiAll (itoa v)=.ok v:=by
  unfold itoa
  by_cases c:v < 0
  · rw [if_pos c]
    have hp:parseMag (decDigits v.natAbs)=.ok v.natAbs:=by
      unfold parseMag;rw [if_neg (pT _)];exact pJ _ (by omega)
    unfold atoiAll
    have e:(45:UInt8).toNat=45:=rfl
    simp only [e,or_true,if_true,hp,not_true,false_and,if_false,true_and]
    rw [if_neg (by omega)]
    congr 1;omega
  · rw [if_neg c]
    have hp:parseMag (decDigits v.toNat)=.ok v.toNat:=by
      unfold parseMag;rw [if_neg (pT _)];exact pJ _ (by omega)
    have hd:=kX v.toNat
    cases hl:decDigits v.toNat with
    | nil=>exact absurd hl (pT _)
    | cons a r =>
      rw [hl] at hp hd
      have:=hd a (by simp)
      unfold atoiAll
      have n1:¬a.toNat=43:=by omega
      have n2:¬a.toNat=45:=by omega
      simp only [n1,n2,or_self,if_false,hp,not_false_eq_true,true_and,false_and]
      rw [if_neg (by omega)]
      congr 1;omega
theorem gA (v:Int) (h:-9223372036854775808≤v∧v≤9223372036854775807):cG (aW (itoa v))=(v,true):=by
  unfold cG
  have e:(aW (itoa v)).data.toList=itoa v:=by simp [aW]
  rw [e,sE v h]
  simp [aW]
def sD (s:ByteArray) (k:Nat):Bool:=!(decide (48≤(s.data.toList.getD k 0).toNat∧(s.data.toList.getD k 0).toNat≤57))
theorem pR (s:ByteArray) (hs:s.size≤1048576):∃ b:Bool,dG s=some b∧(b=true↔Dig s.data.toList∧0 < s.size):=by
  have e:=qM (step:=cS s) s.size (sD s) false (fun k hk=>by
    unfold cS sD
    rw [if_pos (by omega),iC s k hk,wi (by omega),List.getD_eq_getElem?_getD,List.getElem?_eq_getElem (by rw [dN];exact hk)]
    simp only [Option.bind_some,Option.getD_some]
    have key:∀ n:Nat,((if (n:Int) < 48 then some true else some (decide (57 < (n:Int))):Option Bool).bind fun d10=>(if d10=true then some (.inr (.inr false)) else some (.inl ((k:Int)+1)):Option (Int ⊕ (Unit ⊕ Bool))))=some (if (!decide (48≤n∧n≤57))=true then .inr (.inr false) else .inl ((k+1:Nat):Int)):=by
      intro n
      by_cases h1:n < 48
      · have:¬48≤n:=by omega
        rw [if_pos (by omega)];simp [this]
      · have g:48≤n:=by omega
        rw [if_neg (by omega)]
        by_cases h2:n≤57
        · have:¬(57:Int) < (n:Int):=by omega
          simp [g,h2,this]
        · have:(57:Int) < (n:Int):=by omega
          simp [h2,this]
    exact key _) (by unfold cS;rw [if_neg (by omega)])
  unfold dG
  rw [e]
  have d:(List.range s.size).any (sD s)=false↔Dig s.data.toList:=by
    rw [List.any_eq_false]
    constructor
    · intro h b hb
      obtain ⟨k,hk,rfl⟩:=List.getElem_of_mem hb
      have:=h k (by rw [List.mem_range,← dN];exact hk)
      unfold sD at this
      rw [List.getD_eq_getElem?_getD,List.getElem?_eq_getElem hk] at this
      simpa using this
    · intro h k hk
      rw [List.mem_range,← dN] at hk
      have:=h _ (List.getElem_mem hk)
      unfold sD
      rw [List.getD_eq_getElem?_getD,List.getElem?_eq_getElem hk]
      simpa using this
  by_cases c:(List.range s.size).any (sD s)=true
  · rw [if_pos c]
    refine ⟨false,rfl,?_⟩
    constructor
    · intro h;cases h
    · intro h;rw [d.2 h.1] at c;cases c
  · rw [if_neg c]
    refine ⟨decide (0 < (s.size:Int)),rfl,?_⟩
    have:=d.1 (by simpa using c)
    simp only [decide_eq_true_eq]
    exact ⟨fun h=>⟨this,by omega⟩,fun h=>by omega⟩
end Go.Ev
/- The reference's ParseInt: it ends at every text, and reads numerals back. -/
namespace Go.Ev
set_option linter.all false
open Go.Lib (decDigits itoa)
theorem sI (d:Int) (h:0≤d∧d≤9):(-9223372036854775808+d).tdiv 10=-((9223372036854775808 - d) / 10):=by
  rw [show -9223372036854775808+d=-(9223372036854775808 - d) by omega,Int.neg_tdiv,Int.tdiv_eq_ediv_of_nonneg (by omega)]
def dv (b:UInt8):Int:=(b.toNat:Int) - 48
theorem mM (s:ByteArray) (hs:s.size≤1048576) (hd:Dig s.data.toList) (t:Int) (k:Nat) (hk:k < s.size) (ht:-9223372036854775808≤t∧t≤0) :
    aU s (t,(k:Int))=some (if t < -((9223372036854775808 - dv (s.data.toList[k]'(by rw [dN];exact hk))) / 10) then .inr (.inr (0,false)) else .inl (t*10 - dv (s.data.toList[k]'(by rw [dN];exact hk)),((k+1:Nat):Int))):=by
  have hb:=hd _ (List.getElem_mem (show k < s.data.toList.length by rw [dN];exact hk))
  have key:∀ n:Nat,48≤n∧n≤57→((bL (IntKind.i64.wrap (IntKind.i64.wrap (n:Int) - 48))).bind fun v20=>(bL (IntKind.i64.wrap ((-9223372036854775808)+v20))).bind fun v21=>(if (t < IntKind.i64.wrap (v21.tdiv 10)) then some (.inr (.inr (0,false))) else (bL (IntKind.i64.wrap (IntKind.i64.wrap (t*10) - v20))).bind fun v22=>some (.inl (v22,IntKind.i64.wrap ((k:Int)+1))):Option ((Int × Int) ⊕ (Int ⊕ (Int × Bool)))))=some (if t < -((9223372036854775808 - ((n:Int) - 48)) / 10) then .inr (.inr (0,false)) else .inl (t*10 - ((n:Int) - 48),((k+1:Nat):Int))):=by
    intro n hn
    rw [wi (n:=(n:Int)) (by omega),wi (n:=(n:Int) - 48) (by omega)]
    simp only [dH]
    rw [wi (n:=-9223372036854775808+((n:Int) - 48)) (by omega),sI _ (by omega),wi (n:=-((9223372036854775808 - ((n:Int) - 48)) / 10)) (by omega)]
    by_cases c:t < -((9223372036854775808 - ((n:Int) - 48)) / 10)
    · rw [if_pos c,if_pos c]
    · rw [if_neg c,if_neg c,wi (n:=t*10) (by omega),wi (n:=t*10 - ((n:Int) - 48)) (by omega),wi (n:=(k:Int)+1) (by omega)]
      rfl
  unfold aU
  simp only []
  rw [if_pos (by omega),iC s k hk]
  exact key _ hb
theorem nS (s:ByteArray) (t:Int):aU s (t,(s.size:Int))=some (.inr (.inl t)):=by
  unfold aU
  simp only []
  rw [if_neg (by omega)]
theorem pH (s:ByteArray) (hs:s.size≤1048576) (hd:Dig s.data.toList):∀ (n k:Nat) (t:Int),n+k=s.size→(-9223372036854775808≤t∧t≤0)→∃ r,lp (aU s) (t,(k:Int))=some r∧∀ t',r=.inl t'→-9223372036854775808≤t'∧t'≤0:=by
  intro n
  induction n with
  | zero =>
    intro k t hk ht
    have:k=s.size:=by omega
    subst this
    exact ⟨.inl t,bP (nS s t),fun t' e=>by injection e with e;subst e;exact ht⟩
  | succ n ih =>
    intro k t hk ht
    have hlt:k < s.size:=by omega
    have hb:=hd _ (List.getElem_mem (show k < s.data.toList.length by rw [dN];exact hlt))
    have st:=mM s hs hd t k hlt ht
    unfold dv at st
    by_cases c:t < -((9223372036854775808 - (((s.data.toList[k]'(by rw [dN];exact hlt)).toNat:Int) - 48)) / 10)
    · rw [if_pos c] at st
      exact ⟨.inr (0,false),bP st,fun t' e=>by cases e⟩
    · rw [if_neg c] at st
      obtain ⟨r,e,q⟩:=ih (k+1) (t*10 - (((s.data.toList[k]'(by rw [dN];exact hlt)).toNat:Int) - 48)) (by omega) (by omega)
      exact ⟨r,(dB st).trans e,q⟩
def tX (l:List UInt8) (t:Int):Int:=l.foldl (fun t b=>t*10 - dv b) t
theorem tW (u:Nat):tX (decDigits u) 0=-(u:Int):=by
  induction u using Nat.strongRecOn with
  | _ u ih =>
    by_cases c:u < 10
    · rw [fL c]
      show (0:Int)*10 - dv _=_
      unfold dv;rw [oC c];omega
    · rw [jZ c,tX,List.foldl_append]
      have:=ih (u / 10) (by omega)
      unfold tX at this
      rw [this]
      show -((u / 10:Nat):Int)*10 - dv _=_
      unfold dv;rw [oC (by omega)];omega
theorem qJ (s:ByteArray) (hs:s.size≤17) (hd:Dig s.data.toList):∀ (n k:Nat) (t x:Int),n+k=s.size→1≤x→x*10 ^ n≤100000000000000000→(-x < t∧t≤0)→lp (aU s) (t,(k:Int))=some (.inl (tX (s.data.toList.drop k) t)):=by
  intro n
  induction n with
  | zero =>
    intro k t x hk _ _ ht
    have:k=s.size:=by omega
    subst this
    rw [bP (nS s t),← dN,List.drop_length];rfl
  | succ n ih =>
    intro k t x hk h1 h2 ht
    have hlt:k < s.size:=by omega
    have hl:k < s.data.toList.length:=by rw [dN];exact hlt
    have hb:=hd _ (List.getElem_mem hl)
    have p1:(1:Int)≤10 ^ n:=Int.pow_pos (by omega)
    have e10:x*10 ^ (n+1)=x*10*10 ^ n:=by rw [Int.pow_succ,Int.mul_comm (10 ^ n) 10,Int.mul_assoc]
    rw [e10] at h2
    have hx:x*10≤100000000000000000:=by
      have:=Int.mul_le_mul_of_nonneg_left p1 (show 0≤x*10 by omega)
      omega
    have st:=mM s (by omega) hd t k hlt (by omega)
    unfold dv at st
    rw [if_neg (by omega)] at st
    rw [dB st,ih (k+1) _ (x*10) (by omega) (by omega) h2 (by omega),List.drop_eq_getElem_cons hl]
    rfl
end Go.Ev
/- ParseInt of the reference. -/
namespace Go.Ev
set_option linter.all false
open Go.Lib (decDigits itoa)
theorem tR (s:ByteArray) (a:Nat):(seg s a s.size).size≤s.size:=by
  unfold seg
  rw [aI,List.length_drop,List.length_take,dN];omega
theorem uE (s:ByteArray):∃ d:Bool,((if 0 < (s.size:Int) then (cI s 0).bind fun b1=>some (decide (b1=45)) else some false):Option Bool)=some d∧(d=true→0 < s.size):=by
  by_cases c:0 < s.size
  · have e:=iC s 0 c
    rw [show ((0:Nat):Int)=0 from rfl] at e
    rw [if_pos (by omega),e]
    exact ⟨_,rfl,fun _=>c⟩
  · rw [if_neg (by omega)]
    exact ⟨false,rfl,fun h=>by cases h⟩
theorem gX (s:ByteArray) (hs:s.size≤1048576):∃ r,bG s=some r:=by
  unfold bG
  obtain ⟨d3,e3,h3⟩:=uE s
  rw [e3]
  simp only [Option.bind_some]
  have h7:∃ d7,((if d3=true then (eQ s 1 (s.size:Int)).bind fun y5=>some y5 else some s):Option ByteArray)=some d7∧d7.size≤s.size:=by
    by_cases c:d3=true
    · have:=h3 c
      rw [if_pos c,show (1:Int)=((1:Nat):Int) from rfl,kP s 1 s.size (by omega) (Nat.le_refl _)]
      exact ⟨_,rfl,tR s 1⟩
    · rw [if_neg c];exact ⟨s,rfl,Nat.le_refl _⟩
  obtain ⟨d7,e7,l7⟩:=h7
  rw [e7]
  simp only [Option.bind_some]
  obtain ⟨b,eb,hb⟩:=pR d7 (by omega)
  rw [eb]
  simp only [Option.bind_some]
  cases b with
  | false=>exact ⟨_,rfl⟩
  | true =>
    obtain ⟨hd,_⟩:=hb.1 rfl
    simp only [if_true,Option.bind_some]
    by_cases c:(19:Int) < (d7.size:Int)
    · rw [decide_eq_true c];exact ⟨_,rfl⟩
    · rw [decide_eq_false c,if_neg (by simp)]
      obtain ⟨r,er,hr⟩:=pH d7 (by omega) hd d7.size 0 0 (by omega) (by omega)
      rw [show ((0:Nat):Int)=0 from rfl] at er
      rw [er]
      simp only [Option.bind_some]
      cases r with
      | inr x=>exact ⟨_,rfl⟩
      | inl t =>
        have ht:=hr t rfl
        have fin:∀ n:Int,-9223372036854775808≤n∧n≤9223372036854775807→∃ r,((bR n).bind fun r29=>(if (r29≠s) then some ((0:Int),false) else some (n,true)))=some r:=by
          intro n hn
          rw [oG n hn]
          simp only [Option.bind_some]
          split <;> exact ⟨_,rfl⟩
        simp only []
        by_cases c3:d3=true
        · rw [if_pos c3];exact fin t (by omega)
        · rw [if_neg c3]
          by_cases c4:t=-9223372036854775808
          · rw [if_pos c4];exact ⟨_,rfl⟩
          · rw [if_neg c4,wi (by omega)];exact fin (0 - t) (by omega)
theorem kN (l:List UInt8):(aW l).data.toList=l:=by simp [aW]
theorem nT (u:Nat) (h:u < 100000000):lp (aU (aW (decDigits u))) (0,0)=some (.inl (-(u:Int))):=by
  have hl:=iQ 7 u (by omega)
  have e:=qJ (aW (decDigits u)) (by rw [aI];omega) (by rw [kN];exact kX u) (aW (decDigits u)).size 0 0 1 (by omega) (by omega) (by
    rw [aI]
    have:(10:Int) ^ (decDigits u).length≤10 ^ 8:=by
      have q:10 ^ (decDigits u).length≤10 ^ 8:=Nat.pow_le_pow_right (by omega) hl
      exact_mod_cast q
    omega) (by omega)
  rw [show ((0:Nat):Int)=0 from rfl,kN,List.drop_zero,tW] at e
  exact e
theorem oB (u:Nat) (h:u < 100000000):dG (aW (decDigits u))=some true:=by
  have hl:=iQ 7 u (by omega)
  obtain ⟨b,e,q⟩:=pR (aW (decDigits u)) (by rw [aI];omega)
  have:b=true:=q.2 ⟨by rw [kN];exact kX u,by rw [aI];exact List.length_pos_iff.2 (pT u)⟩
  rw [e,this]
theorem gY (v:Int) (h:-99999999≤v∧v≤99999999):bG (aW (itoa v))=some (v,true):=by
  have hf:=oG v (by omega)
  unfold bG
  by_cases c:v < 0
  · have hi:itoa v=45::decDigits v.natAbs:=by unfold itoa;rw [if_pos c]
    have hl:=iQ 7 v.natAbs (by omega)
    have sz:(aW (itoa v)).size=(decDigits v.natAbs).length+1:=by rw [aI,hi,List.length_cons]
    have e0:=iC (aW (itoa v)) 0 (by omega)
    have g0:(aW (itoa v)).data.toList=45::decDigits v.natAbs:=by rw [kN,hi]
    have e1:cI (aW (itoa v)) 0=some 45:=by
      rw [show ((0:Nat):Int)=0 from rfl] at e0
      rw [e0]
      simp only [g0,List.getElem_cons_zero]
      rfl
    have e2:eQ (aW (itoa v)) 1 ((aW (itoa v)).size:Int)=some (aW (decDigits v.natAbs)):=by
      rw [show (1:Int)=((1:Nat):Int) from rfl,kP _ 1 _ (by omega) (Nat.le_refl _),seg,← dN,List.take_length,g0]
      rfl
    rw [if_pos (by omega),e1]
    simp only [Option.bind_some,decide_true,if_true,e2,oB _ (show v.natAbs < 100000000 by omega)]
    rw [decide_eq_false (by rw [aI];omega),if_neg (by simp),nT _ (by omega)]
    simp only [Option.bind_some]
    rw [show -(v.natAbs:Int)=v by omega,hf]
    simp
  · have hi:itoa v=decDigits v.toNat:=by unfold itoa;rw [if_neg c]
    have hl:=iQ 7 v.toNat (by omega)
    have hd:=kX v.toNat
    have hne:=pT v.toNat
    have hp:=List.length_pos_iff.2 hne
    rw [hi] at hf ⊢
    have e0:=iC (aW (decDigits v.toNat)) 0 (by rw [aI];omega)
    rw [show ((0:Nat):Int)=0 from rfl] at e0
    have hb:=hd _ (List.getElem_mem hp)
    have e3:∀ b:UInt8,48≤b.toNat∧b.toNat≤57→decide (((b.toNat:Nat):Int)=45)=false:=fun b hb=>decide_eq_false (by omega)
    rw [if_pos (by rw [aI];omega),e0]
    simp only [Option.bind_some]
    rw [e3 _ (by
      have:=hd _ (List.getElem_mem (show 0 < (decDigits v.toNat).length from hp))
      simpa only [kN] using this)]
    simp only [Option.bind_some,Bool.false_eq_true,if_false,oB _ (show v.toNat < 100000000 by omega),if_true]
    rw [decide_eq_false (by rw [aI];omega),if_neg (by simp),nT _ (by omega)]
    simp only [Option.bind_some]
    rw [if_neg (by omega),wi (by omega)]
    simp only [Option.bind_some]
    rw [show 0 - -(v.toNat:Int)=v by omega,hf]
    simp
end Go.Ev
/- Poses read back. -/
namespace Go.Ev
set_option linter.all false
open Go.Lib (decDigits itoa)
theorem jA (c:UInt8) (h:c.toNat < 45) (v:Int):no c (itoa v):=by
  intro b hb e
  subst e
  unfold itoa at hb
  split at hb
  · rcases List.mem_cons.1 hb with rfl | hb
    · exact absurd h (by decide)
    · have:=kX _ b hb;omega
  · have:=kX _ b hb;omega
def lY (t:Int):List UInt8:=(nK t).data.toList
theorem iX (p:Pose):(dR p).data.toList=itoa p.fX++44::(itoa p.fY++44::lY p.fTurn):=by
  unfold dR lY aW
  simp
theorem qT (c:UInt8) (h:c.toNat < 45) (t:Int):no c (lY t):=by
  intro b hb e
  subst e
  unfold lY nK at hb
  split at hb
  · simp at hb;subst hb;exact absurd h (by decide)
  · split at hb
    · simp at hb;subst hb;exact absurd h (by decide)
    · split at hb
      · simp at hb;subst hb;exact absurd h (by decide)
      · simp at hb;subst hb;exact absurd h (by decide)
theorem sH {a b:Int} (ha:0≤a∧a≤3) (hb:0≤b∧b≤3) (e:lY a=lY b):a=b:=by
  rcases (show a=0∨a=1∨a=2∨a=3 by omega) with rfl | rfl | rfl | rfl <;> rcases (show b=0∨b=1∨b=2∨b=3 by omega) with rfl | rfl | rfl | rfl <;> first | rfl | (exact absurd e (by decide))
theorem rS {p:Pose} {a:Int} (ha:0≤a∧a≤3) (hp:0≤p.fTurn∧p.fTurn≤3) (e:dR ⟨a,p.fX,p.fY⟩=dR p):a=p.fTurn:=by
  have e:=congrArg (fun s:ByteArray=>s.data.toList) e
  simp only [iX] at e
  have e:=List.append_cancel_left e
  injection e with _ e
  have e:=List.append_cancel_left e
  injection e with _ e
  exact sH ha hp e
theorem lQ (c:UInt8):∀ (l:List UInt8) (w:List UInt8),w ∈ spL c l→w.length≤l.length
  | [],w,h=>by simp [spL] at h;subst h;simp
  | x::l,w,h=>by
    unfold spL at h
    split at h
    · rcases List.mem_cons.1 h with rfl | h
      · simp
      · have:=lQ c l w h;simp;omega
    · cases e:spL c l with
      | nil=>rw [e] at h;simp at h;subst h;simp
      | cons v vs =>
        rw [e] at h
        simp only [] at h
        rcases List.mem_cons.1 h with rfl | h
        · have:=lQ c l v (by rw [e];simp);simp;omega
        · have:=lQ c l w (by rw [e];simp [h]);simp;omega
theorem sT (p:Pose):∃ b,aY p=some b∧bK p=some b∧(eB p→b=dR p)∧(¬eB p→b=(⟨#[]⟩:ByteArray)):=by
  by_cases h:eB p
  · obtain ⟨h1,h2,_⟩:=nC p h
    exact ⟨_,h1,h2,fun _=>rfl,fun g=>absurd h g⟩
  · refine ⟨⟨#[]⟩,?_,?_,fun g=>absurd g h,fun _=>rfl⟩
    · unfold aY;rw [jQ,decide_eq_false h];rfl
    · unfold bK;rw [eK,decide_eq_false h];rfl
theorem rB (p:Pose):dR p≠(⟨#[]⟩:ByteArray):=by
  intro e
  have:=congrArg (fun s:ByteArray=>s.data.toList) e
  simp only [iX] at this
  simp at this
theorem mL (s:ByteArray) (x y:Int) (b1 b2:Bool):∀ (n k:Nat),n+k=4→(∃ r,lp (aQ s) ⟨(k:Int),x,y⟩=some r)∧(∃ r,lp (aR s (x,b1) (y,b2)) (k:Int)=some r):=by
  intro n
  induction n with
  | zero =>
    intro k hk
    refine ⟨⟨.inl (),bP ?_⟩,⟨.inl (),bP ?_⟩⟩
    · unfold aQ;simp only [];rw [if_neg (by omega)]
    · unfold aR;rw [if_neg (by omega)]
  | succ n ih =>
    intro k hk
    obtain ⟨i1,i2⟩:=ih (k+1) (by omega)
    obtain ⟨b,e1,e2,_⟩:=sT ⟨(k:Int),x,y⟩
    constructor
    · by_cases c:b≠(⟨#[]⟩:ByteArray)∧b=s
      · refine ⟨_,bP (r:=.inr (⟨(k:Int),x,y⟩,true)) ?_⟩
        unfold aQ;simp only []
        rw [if_pos (by omega),e1]
        simp [c.1,← c.2]
      · obtain ⟨r,e⟩:=i1
        refine ⟨r,(dB ?_).trans e⟩
        unfold aQ;simp only []
        rw [if_pos (by omega),e1,wi (by omega)]
        simp only [Option.bind_some]
        by_cases c1:b≠(⟨#[]⟩:ByteArray)
        · have c2:¬b=s:=fun h=>c ⟨c1,h⟩
          simp [c1,c2]
        · simp [c1]
    · by_cases c:eB ⟨(k:Int),x,y⟩∧b=s
      · refine ⟨_,bP (r:=.inr (⟨(k:Int),x,y⟩,true)) ?_⟩
        unfold aR
        rw [if_pos (by omega),eK,e2]
        simp [c.1,c.2]
      · obtain ⟨r,e⟩:=i2
        refine ⟨r,(dB ?_).trans e⟩
        unfold aR
        rw [if_pos (by omega),eK,e2,wi (by omega)]
        simp only [Option.bind_some]
        by_cases c1:eB ⟨(k:Int),x,y⟩
        · have c2:¬b=s:=fun h=>c ⟨c1,h⟩
          simp [c1,c2]
        · simp [c1]
theorem nI {s:ByteArray} {c:UInt8} {w:ByteArray} (h:w ∈ (spL c s.data.toList).map aW):w.size≤s.size:=by
  obtain ⟨l,h1,rfl⟩:=List.mem_map.1 h
  have:=lQ c _ l h1
  rw [aI,← dN];exact this
theorem eP (s:ByteArray) (hs:s.size≤1048576):bQ s=some (cG s):=by
  unfold bQ;rw [eY (by omega)];rfl
theorem vP {α:Type} {L:List α} (h:L.length=3):∃ a b c,L=[a,b,c]:=by
  match L,h with
  | [a,b,c],_=>exact ⟨a,b,c,rfl⟩
theorem lG (s:ByteArray) (hs:s.size≤1048576):(∃ r,cE s=some r)∧(∃ r,cH s=some r):=by
  unfold cE cH
  rw [lO s 44 hs,lP s 44 hs]
  simp only [Option.bind_some]
  by_cases c:(((spL 44 s.data.toList).map aW).length:Int)≠3
  · rw [if_pos c,if_pos c];exact ⟨⟨_,rfl⟩,⟨_,rfl⟩⟩
  · rw [if_neg c,if_neg c]
    have w:∀ y ∈ (spL 44 s.data.toList).map aW,y.size≤1048576:=fun y hy=>Nat.le_trans (nI hy) hs
    generalize (spL 44 s.data.toList).map aW=L at *
    obtain ⟨y0,y1,y2,rfl⟩:=vP (show L.length=3 by have:=Decidable.not_not.1 c;omega)
    have w0:=w y0 (by simp)
    have w1:=w y1 (by simp)
    rw [show idx [y0,y1,y2] 0=some y0 from rfl,show idx [y0,y1,y2] 1=some y1 from rfl]
    simp only [Option.bind_some]
    obtain ⟨r3,e3⟩:=gX y0 w0
    obtain ⟨r5,e5⟩:=gX y1 w1
    rw [e3,e5,eP y0 w0,eP y1 w1]
    simp only [Option.bind_some]
    constructor
    · obtain ⟨⟨r,e⟩,_⟩:=mL s r3.1 r5.1 true true 4 0 (by omega)
      rw [show ((0:Nat):Int)=0 from rfl] at e
      rw [e]
      cases r <;> exact ⟨_,rfl⟩
    · obtain ⟨_,⟨r,e⟩⟩:=mL s (cG y0).1 (cG y1).1 (cG y0).2 (cG y1).2 4 0 (by omega)
      rw [show ((0:Nat):Int)=0 from rfl] at e
      split
      · simp only [Option.bind_some]
        split
        · exact ⟨_,rfl⟩
        · rw [show ((cG y0).1,(cG y0).2)=cG y0 from rfl,show ((cG y1).1,(cG y1).2)=cG y1 from rfl] at e
          rw [e]
          cases r <;> exact ⟨_,rfl⟩
      · exact ⟨_,rfl⟩
theorem rT (p:Pose) (h:eB p):(dR p).size≤43:=(nC p h).2.2
theorem qA (p:Pose) (h:eB p):cE (dR p)=some (p,true)∧cH (dR p)=some (p,true):=by
  have hz:=rT p h
  have hv:=h
  obtain ⟨h1,h2,h3,h4,h5,h6⟩:=h
  have ws:(spL 44 (dR p).data.toList).map aW=[aW (itoa p.fX),aW (itoa p.fY),aW (lY p.fTurn)]:=by
    rw [iX,eF _ _ _ (jA 44 (by decide) _),eF _ _ _ (jA 44 (by decide) _),kB _ _ (qT 44 (by decide) _)]
    rfl
  have lx:=fK p.fX (by omega)
  have ly:=fK p.fY (by omega)
  have main:∀ (n k:Nat),(n:Int)+k=p.fTurn→lp (aQ (dR p)) ⟨(k:Int),p.fX,p.fY⟩=some (.inr (p,true))∧lp (aR (dR p) (p.fX,true) (p.fY,true)) (k:Int)=some (.inr (p,true)):=by
    intro n
    induction n with
    | zero =>
      intro k hk
      have e:(⟨(k:Int),p.fX,p.fY⟩:Pose)=p:=by cases p;simp only [Pose.mk.injEq,and_true];simp only at hk;omega
      obtain ⟨q1,q2,_⟩:=nC p hv
      constructor
      · refine bP ?_
        rw [e]
        unfold aQ
        rw [if_pos (by omega),q1]
        simp [rB p]
      · refine bP ?_
        unfold aR
        simp only []
        rw [e,if_pos (by omega),eK,q2]
        simp [hv]
    | succ n ih =>
      intro k hk
      obtain ⟨i1,i2⟩:=ih (k+1) (by omega)
      have vk:eB ⟨(k:Int),p.fX,p.fY⟩:=⟨by simp only [];omega,by simp only [];omega,h3,h4,h5,h6⟩
      obtain ⟨q1,q2,_⟩:=nC _ vk
      have ne:¬dR ⟨(k:Int),p.fX,p.fY⟩=dR p:=fun e=>by
        have:=rS ⟨by omega,by omega⟩ ⟨h1,h2⟩ e
        omega
      constructor
      · refine (dB ?_).trans i1
        unfold aQ
        simp only []
        rw [if_pos (by omega),q1,wi (by omega)]
        simp [rB,ne]
      · refine (dB ?_).trans i2
        unfold aR
        simp only []
        rw [if_pos (by omega),eK,q2,wi (by omega)]
        simp [vk,ne]
  obtain ⟨m1,m2⟩:=main p.fTurn.toNat 0 (by omega)
  rw [show ((0:Nat):Int)=0 from rfl] at m1 m2
  unfold cE cH
  rw [lO _ 44 (by omega),lP _ 44 (by omega),ws]
  simp only [Option.bind_some]
  rw [if_neg (by simp),if_neg (by simp)]
  rw [show ∀ a b c:ByteArray,idx [a,b,c] 0=some a from fun _ _ _=>rfl,show ∀ a b c:ByteArray,idx [a,b,c] 1=some b from fun _ _ _=>rfl]
  simp only [Option.bind_some]
  rw [gY p.fX (by omega),gY p.fY (by omega),eP _ (by rw [aI];omega),eP _ (by rw [aI];omega),gA _ (by omega),gA _ (by omega)]
  simp only [Option.bind_some,if_true,Bool.not_true,Bool.false_eq_true,if_false]
  rw [m1,m2]
  exact ⟨rfl,rfl⟩
end Go.Ev
/- Factors read back: the law of ParseFactor. -/
namespace Go.Ev
set_option linter.all false
open Go.Lib (decDigits itoa)
theorem kF {c:Nat} {s:ByteArray} (h:cT c s=true):no 32 s.data.toList:=by
  unfold cT hC at h
  simp only [Bool.and_eq_true,decide_eq_true_eq,Bool.not_eq_true',List.any_eq_false,List.mem_range] at h
  intro b hb e
  subst e
  obtain ⟨k,hk,e⟩:=List.getElem_of_mem hb
  have:=h.1.2 k (by rw [← dN];exact hk)
  unfold pV at this
  rw [List.getD_eq_getElem?_getD,List.getElem?_eq_getElem hk,e] at this
  exact this (by by_cases z:k=0 <;> simp [z])
theorem qS (k:Int):no 32 (gZ k).data.toList:=by
  unfold no gZ
  split
  · decide
  · split
    · decide
    · split <;> decide
theorem rA (p:Pose):no 32 (dR p).data.toList:=by
  rw [iX]
  intro b hb
  rcases List.mem_append.1 hb with hb | hb
  · exact jA 32 (by decide) _ b hb
  · rcases List.mem_cons.1 hb with rfl | hb
    · decide
    · rcases List.mem_append.1 hb with hb | hb
      · exact jA 32 (by decide) _ b hb
      · rcases List.mem_cons.1 hb with rfl | hb
        · decide
        · exact qT 32 (by decide) _ b hb
theorem rE {f:Factor} (h:cZ f=true):no 32 f.fFrom.data.toList∧no 32 f.fTo.data.toList:=by
  unfold cZ at h
  simp only [Bool.and_eq_true,decide_eq_true_eq] at h
  obtain ⟨_,h⟩:=h
  unfold lD at h
  split at h
  · simp only [Bool.and_eq_true,decide_eq_true_eq] at h
    exact ⟨by rw [h.1];intro b hb;simp at hb,kF h.2⟩
  · split at h
    · simp only [Bool.and_eq_true,decide_eq_true_eq] at h
      exact ⟨kF h.1.1,kF h.1.2⟩
    · split at h
      · simp only [Bool.and_eq_true,decide_eq_true_eq] at h
        exact ⟨kF h.1.1,kF h.1.2⟩
      · cases h
theorem kW (f:Factor):(eW f).data.toList=(gZ f.fKind).data.toList++32::(itoa f.fId++(if f.fKind=1 then [] else 32::f.fFrom.data.toList)++32::(f.fTo.data.toList++32::((dR f.fPose).data.toList++32::itoa f.fWeight))):=by
  unfold eW aW
  split <;> simp
theorem rI (f:Factor):eW f≠(⟨#[]⟩:ByteArray):=by
  intro e
  have:=congrArg (fun s:ByteArray=>s.data.toList) e
  simp only [kW] at this
  simp at this
theorem tN {f:Factor} (h:cZ f=true) (k:f.fKind=1):(spL 32 (eW f).data.toList).map aW=[gZ f.fKind,aW (itoa f.fId),f.fTo,dR f.fPose,aW (itoa f.fWeight)]:=by
  obtain ⟨n1,n2⟩:=rE h
  have i:=jA 32 (by decide)
  rw [kW,if_pos k,List.append_nil,eF _ _ _ (qS _),eF _ _ _ (i _),eF _ _ _ n2,eF _ _ _ (rA _),kB _ _ (i _)]
  simp [oD]
theorem tM {f:Factor} (h:cZ f=true) (k:f.fKind≠1):(spL 32 (eW f).data.toList).map aW=[gZ f.fKind,aW (itoa f.fId),f.fFrom,f.fTo,dR f.fPose,aW (itoa f.fWeight)]:=by
  obtain ⟨n1,n2⟩:=rE h
  have i:=jA 32 (by decide)
  rw [kW,if_neg k,List.append_assoc,List.cons_append,eF _ _ _ (qS _),eF _ _ _ (i _),eF _ _ _ n1,eF _ _ _ n2,eF _ _ _ (rA _),kB _ _ (i _)]
  simp [oD]
theorem jX (s:ByteArray) (id:Int) (fr to:ByteArray) (p:Pose) (w:Int) (hb:fr.size≤9223372036854775807∧to.size≤9223372036854775807):∀ (n k:Nat) (kk:Int),n+k=5 →
    ∃ r,lp (aN s) ⟨id,(k:Int),fr,to,p,w⟩=some r∧lp (aO s) ((k:Int),⟨id,kk,fr,to,p,w⟩)=some r∧(∀ x,r=.inr x→∃ g,cZ g=true∧eW g=s):=by
  intro n
  induction n with
  | zero =>
    intro k kk hk
    refine ⟨.inl (),bP ?_,bP ?_,fun x e=>by cases e⟩
    · unfold aN;simp only [];rw [if_neg (by omega)]
    · unfold aO;simp only [];rw [if_neg (by omega)]
  | succ n ih =>
    intro k kk hk
    obtain ⟨r,i1,i2,i3⟩:=ih (k+1) (k:Int) (by omega)
    obtain ⟨v1,v2⟩:=lX ⟨id,(k:Int),fr,to,p,w⟩ hb
    by_cases g:cZ ⟨id,(k:Int),fr,to,p,w⟩=true
    · obtain ⟨f1,f2⟩:=tL _ g
      by_cases c:eW ⟨id,(k:Int),fr,to,p,w⟩=s
      · refine ⟨.inr (⟨id,(k:Int),fr,to,p,w⟩,true),bP ?_,bP ?_,fun _ _=>⟨_,g,c⟩⟩
        · unfold aN;simp only []
          have sne:¬s=(⟨#[]⟩:ByteArray):=by rw [← c];exact rI _
          rw [if_pos (by omega),f1]
          simp [c,sne]
        · unfold aO;simp only []
          rw [if_pos (by omega),v2,g,f2]
          simp [c]
      · refine ⟨r,(dB ?_).trans i1,(dB ?_).trans i2,i3⟩
        · unfold aN;simp only []
          rw [if_pos (by omega),f1,wi (by omega)]
          simp [rI,c]
        · unfold aO;simp only []
          rw [if_pos (by omega),v2,g,f2,wi (by omega)]
          simp [c]
    · have g':cZ ⟨id,(k:Int),fr,to,p,w⟩=false:=by simpa using g
      obtain ⟨f1,f2⟩:=tK ⟨id,(k:Int),fr,to,p,w⟩ hb g'
      refine ⟨r,(dB ?_).trans i1,(dB ?_).trans i2,i3⟩
      · unfold aN;simp only []
        rw [if_pos (by omega),f1,wi (by omega)]
        simp
      · unfold aO;simp only []
        rw [if_pos (by omega),v2,g',wi (by omega)]
        simp
end Go.Ev
/- The law of ParseFactor. -/
namespace Go.Ev
set_option linter.all false
open Go.Lib (decDigits itoa)
theorem uB {α:Type} {l:List α} {i:Int} (h0:0≤i) (h1:i < l.length):idx l i=some (l[i.toNat]'(by omega)):=by
  have:=uV (l:=l) (k:=i.toNat) (by omega)
  rwa [show ((i.toNat:Nat):Int)=i by omega] at this
theorem gF {L:List ByteArray} {i:Int} (h0:0≤i) (h1:i < L.length):∃ y ∈ L,idx L i=some y:=⟨_,List.getElem_mem (show i.toNat < L.length by omega),uB h0 h1⟩
def zf:Factor × Bool:=(Factor.mk 0 0 ByteArray.empty ByteArray.empty (Pose.mk 0 0 0) 0,false)
theorem uJ (f:Factor) (h:cZ f=true) (hz:(eW f).size≤1048576):∃ r,bC (eW f)=some r∧bF (eW f)=some r:=by
  obtain ⟨s1,s2⟩:=mU h
  obtain ⟨g1,g2,g3,g4,g5,_,_,g8,_⟩:=lE h
  obtain ⟨p1,p2⟩:=qA f.fPose g3
  have i1:=fK f.fId (by omega)
  have i2:=fK f.fWeight (by omega)
  have a1:=gY f.fId (by omega)
  have a2:=gY f.fWeight (by omega)
  have b1:bQ (aW (itoa f.fId))=some (f.fId,true):=by rw [eP _ (by rw [aI];omega),gA _ (by omega)]
  have b2:bQ (aW (itoa f.fWeight))=some (f.fWeight,true):=by rw [eP _ (by rw [aI];omega),gA _ (by omega)]
  unfold bC bF
  rw [lO _ 32 hz,lP _ 32 hz]
  by_cases k:f.fKind=1
  · rw [tN h k]
    obtain ⟨r,e1,e2,_⟩:=jX (eW f) f.fId (⟨#[]⟩:ByteArray) f.fTo f.fPose f.fWeight ⟨by decide,by omega⟩ 4 1 0 (by omega)
    rw [show ((1:Nat):Int)=1 from rfl] at e1 e2
    generalize gZ f.fKind=W at *
    generalize eW f=s at *
    simp only [Option.bind_some,List.length_cons,List.length_nil,dH]
    rw [show IntKind.i64.wrap (((0+1+1+1+1+1:Nat):Int) - 3)=2 by rfl,show IntKind.i64.wrap (((0+1+1+1+1+1:Nat):Int) - 2)=3 by rfl,show IntKind.i64.wrap (((0+1+1+1+1+1:Nat):Int) - 1)=4 by rfl]
    rw [show ∀ a b c d e:ByteArray,idx [a,b,c,d,e] 1=some b from fun _ _ _ _ _=>rfl,show ∀ a b c d e:ByteArray,idx [a,b,c,d,e] 2=some c from fun _ _ _ _ _=>rfl,show ∀ a b c d e:ByteArray,idx [a,b,c,d,e] 3=some d from fun _ _ _ _ _=>rfl,show ∀ a b c d e:ByteArray,idx [a,b,c,d,e] 4=some e from fun _ _ _ _ _=>rfl]
    simp only [Option.bind_some,a1,a2,b1,b2,p1,p2,if_true,Bool.not_true]
    rw [if_neg (by decide),if_neg (by decide),if_neg (by decide)]
    simp only [Option.bind_some,Bool.false_eq_true,if_false]
    simp only [Option.bind_some,show ByteArray.empty=(⟨#[]⟩:ByteArray) from rfl]
    rw [e1,e2]
    cases r <;> exact ⟨_,rfl,rfl⟩
  · rw [tM h k]
    obtain ⟨r,e1,e2,_⟩:=jX (eW f) f.fId f.fFrom f.fTo f.fPose f.fWeight ⟨by omega,by omega⟩ 4 1 0 (by omega)
    rw [show ((1:Nat):Int)=1 from rfl] at e1 e2
    generalize gZ f.fKind=W at *
    generalize eW f=s at *
    simp only [Option.bind_some,List.length_cons,List.length_nil,dH]
    rw [show IntKind.i64.wrap (((0+1+1+1+1+1+1:Nat):Int) - 3)=3 by rfl,show IntKind.i64.wrap (((0+1+1+1+1+1+1:Nat):Int) - 2)=4 by rfl,show IntKind.i64.wrap (((0+1+1+1+1+1+1:Nat):Int) - 1)=5 by rfl]
    rw [show ∀ a b c d e g:ByteArray,idx [a,b,c,d,e,g] 1=some b from fun _ _ _ _ _ _=>rfl,show ∀ a b c d e g:ByteArray,idx [a,b,c,d,e,g] 2=some c from fun _ _ _ _ _ _=>rfl,show ∀ a b c d e g:ByteArray,idx [a,b,c,d,e,g] 3=some d from fun _ _ _ _ _ _=>rfl,show ∀ a b c d e g:ByteArray,idx [a,b,c,d,e,g] 4=some e from fun _ _ _ _ _ _=>rfl,show ∀ a b c d e g:ByteArray,idx [a,b,c,d,e,g] 5=some g from fun _ _ _ _ _ _=>rfl]
    simp only [Option.bind_some,a1,a2,b1,b2,p1,p2,if_true,Bool.not_true]
    rw [if_neg (by decide),if_pos (by decide),if_pos (by decide)]
    simp only [Option.bind_some,Bool.false_eq_true,if_false]
    rw [if_neg (by simp)]
    rw [e1,e2]
    cases r <;> exact ⟨_,rfl,rfl⟩
theorem uI (s:ByteArray) (hs:s.size≤1048576) (h:¬∃ g,cZ g=true∧eW g=s):bC s=some zf∧bF s=some zf:=by
  have w:∀ y ∈ (spL 32 s.data.toList).map aW,y.size≤1048576:=fun y hy=>Nat.le_trans (nI hy) hs
  have lb:((spL 32 s.data.toList).map aW).length≤1048577:=by
    have:∀ l:List UInt8,(spL 32 l).length≤l.length+1:=by
      intro l
      induction l with
      | nil=>simp [spL]
      | cons x l ih =>
        unfold spL
        split
        · simp;omega
        · split
          · simp
          · rename_i e;rw [e] at ih;simp at ih ⊢;omega
    rw [List.length_map]
    have:=this s.data.toList
    rw [dN] at this;omega
  have loop:∀ (id:Int) (fr to:ByteArray) (p:Pose) (x:Int),fr.size≤1048576∧to.size≤1048576→lp (aN s) ⟨id,1,fr,to,p,x⟩=some (.inl ())∧∀ kk,lp (aO s) (1,⟨id,kk,fr,to,p,x⟩)=some (.inl ()):=by
    intro id fr to p x hb
    have key:∀ kk,lp (aN s) ⟨id,1,fr,to,p,x⟩=some (.inl ())∧lp (aO s) (1,⟨id,kk,fr,to,p,x⟩)=some (.inl ()):=by
      intro kk
      obtain ⟨r,e1,e2,e3⟩:=jX s id fr to p x ⟨by omega,by omega⟩ 4 1 kk (by omega)
      cases r with
      | inr y=>exact absurd (e3 y rfl) h
      | inl u=>exact ⟨e1,e2⟩
    exact ⟨(key 0).1,fun kk=>(key kk).2⟩
  have e0:(ByteArray.empty).size≤1048576:=by decide
  unfold bC bF
  rw [lO s 32 hs,lP s 32 hs]
  generalize (spL 32 s.data.toList).map aW=L at *
  simp only [Option.bind_some,dH]
  constructor
  · by_cases c:(L.length:Int) < 5
    · rw [if_pos c];rfl
    · rw [if_neg c,wi (n:=(L.length:Int) - 3) (by omega),wi (n:=(L.length:Int) - 2) (by omega),wi (n:=(L.length:Int) - 1) (by omega)]
      obtain ⟨y3,m3,i3⟩:=gF (L:=L) (i:=(L.length:Int) - 3) (by omega) (by omega)
      obtain ⟨y1,m1,i1⟩:=gF (L:=L) (i:=1) (by omega) (by omega)
      obtain ⟨y2,m2,i2⟩:=gF (L:=L) (i:=(L.length:Int) - 2) (by omega) (by omega)
      obtain ⟨y4,m4,i4⟩:=gF (L:=L) (i:=(L.length:Int) - 1) (by omega) (by omega)
      obtain ⟨y5,m5,i5⟩:=gF (L:=L) (i:=2) (by omega) (by omega)
      obtain ⟨r1,q1⟩:=gX y1 (w _ m1)
      obtain ⟨r4,q4⟩:=gX y4 (w _ m4)
      obtain ⟨⟨r2,q2⟩,_⟩:=lG y2 (w _ m2)
      rw [i3,i1,i2,i4,i5]
      simp only [Option.bind_some,q1,q2,q4]
      split
      · simp only [Option.bind_some]
        rw [(loop r1.1 y5 y3 r2.1 r4.1 ⟨w _ m5,w _ m3⟩).1];rfl
      · simp only [Option.bind_some]
        rw [(loop r1.1 ByteArray.empty y3 r2.1 r4.1 ⟨e0,w _ m3⟩).1];rfl
  · by_cases c:(L.length:Int)=5∨(L.length:Int)=6
    · have d:((if (L.length:Int)≠5 then some (decide ((L.length:Int)≠6)) else some false):Option Bool)=some false:=by
        rcases c with c | c
        · rw [if_neg (by omega)]
        · rw [if_pos (by omega),decide_eq_false (by omega)]
      rw [d]
      simp only [Option.bind_some,Bool.false_eq_true,if_false]
      rw [wi (n:=(L.length:Int) - 3) (by omega),wi (n:=(L.length:Int) - 2) (by omega),wi (n:=(L.length:Int) - 1) (by omega)]
      obtain ⟨y3,m3,i3⟩:=gF (L:=L) (i:=(L.length:Int) - 3) (by omega) (by omega)
      obtain ⟨y1,m1,i1⟩:=gF (L:=L) (i:=1) (by omega) (by omega)
      obtain ⟨y2,m2,i2⟩:=gF (L:=L) (i:=(L.length:Int) - 2) (by omega) (by omega)
      obtain ⟨y4,m4,i4⟩:=gF (L:=L) (i:=(L.length:Int) - 1) (by omega) (by omega)
      obtain ⟨y5,m5,i5⟩:=gF (L:=L) (i:=2) (by omega) (by omega)
      obtain ⟨_,⟨r2,q2⟩⟩:=lG y2 (w _ m2)
      rw [i3,i1,i2,i4,i5]
      simp only [Option.bind_some,q2,eP y1 (w _ m1),eP y4 (w _ m4)]
      have dd:∃ b:Bool,((if (cG y1).2=true then (if r2.2=true then some (!(cG y4).2) else some true) else some true):Option Bool)=some b:=by
        split
        · split <;> exact ⟨_,rfl⟩
        · exact ⟨_,rfl⟩
      obtain ⟨b,eb⟩:=dd
      rw [eb]
      simp only [Option.bind_some]
      split
      · rfl
      · split
        · simp only [Option.bind_some]
          rw [(loop (cG y1).1 y5 y3 r2.1 (cG y4).1 ⟨w _ m5,w _ m3⟩).2];rfl
        · simp only [Option.bind_some]
          rw [(loop (cG y1).1 ByteArray.empty y3 r2.1 (cG y4).1 ⟨e0,w _ m3⟩).2];rfl
    · have d:((if (L.length:Int)≠5 then some (decide ((L.length:Int)≠6)) else some false):Option Bool)=some true:=by
        rw [if_pos (by omega),decide_eq_true (by omega)]
      rw [d]
      rfl
theorem tF (f:Factor):eC f f=some true:=by simp [eC,gC]
theorem sG (s:ByteArray) (_:okS s):bV s=some true:=by
  unfold bV
  split
  · rfl
  rename_i hc
  have hs:s.size≤1048576:=by omega
  have main:∃ r,bC s=some r∧bF s=some r:=by
    by_cases h:∃ g,cZ g=true∧eW g=s
    · obtain ⟨g,g1,rfl⟩:=h
      exact uJ g g1 hs
    · obtain ⟨a,b⟩:=uI s hs h
      exact ⟨_,a,b⟩
  obtain ⟨r,a,b⟩:=main
  rw [a,b]
  simp [tF]
end Go.Ev
