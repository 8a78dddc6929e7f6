/- Parts PX1, P1, P2, P5, P3, P6, PX2. -/
import Derived.Test.YtfloffdjklhooaaDoorPa1
import Derived.Test.YtfloffdjklhooaaDoorLd
import Derived.Lib.ItoaNum
set_option linter.all false
/- Numbers in decimal: the reference's text is that of strconv.Itoa. -/
namespace Go.Ev
set_option linter.all false
open Go.Lib (decDigits itoa)
def eI (l:List UInt8):ByteArray:=⟨l.toArray⟩
theorem hF (a b:List UInt8):eI a++eI b=eI (a++b):=by
  apply ByteArray.ext
  simp [eI]
theorem aM (l:List UInt8):(eI l).size=l.length:=by simp [eI,ByteArray.size]
theorem eS (k:Nat):gF ((k:Nat):Int)=eI [UInt8.ofNat k]:=rfl
theorem hC {u:Nat} (h:u < 10):decDigits u=[UInt8.ofNat (48+u)]:=by rw [decDigits,dif_pos h]
theorem mN {u:Nat} (h:¬u < 10):decDigits u=decDigits (u / 10)++[UInt8.ofNat (48+u % 10)]:=by rw [decDigits,dif_neg h]
theorem oV {n:Int} (h:0≤n∧n≤255):IntKind.u8.wrap n=n:=by
  show (n % 256:Int)=n
  omega
theorem kV:∀ (m u:Nat),u < 10 ^ (m+1)→(decDigits u).length≤m+1
  | 0,u,h=>by rw [hC (by simpa using h)];simp
  | m+1,u,h=>by
    by_cases c:u < 10
    · rw [hC c];simp
    · rw [mN c,List.length_append,List.length_singleton]
      have:=kV m (u / 10) (by rw [Nat.pow_succ] at h;omega)
      omega
theorem lR:∀ (m u:Nat) (s:List UInt8),u < 10 ^ (m+1)→u < 9223372036854775808→s.length+m≤100 →
    ∃ (d:Nat) (s':List UInt8),lp bL ((u:Int),eI s)=some ((d:Int),eI s')∧d < 10∧s'.length≤100∧[UInt8.ofNat (48+d)]++s'=decDigits u++s
  | m,u,s,h,h2,hs=>by
    by_cases c:u < 10
    · refine ⟨u,s,kU ?_,c,by omega,by rw [hC c]⟩
      unfold bL
      simp only []
      rw [if_neg (by omega)]
    · cases m with
      | zero=>simp at h;omega
      | succ m =>
        obtain ⟨d,s',e,h3,h4,h5⟩:=lR m (u / 10) ([UInt8.ofNat (48+u % 10)]++s) (by rw [Nat.pow_succ] at h;omega) (by omega) (by simp;omega)
        refine ⟨d,s',?_,h3,h4,by rw [h5,mN c];simp⟩
        rw [nA (s':=(((u / 10:Nat):Int),eI ([UInt8.ofNat (48+u % 10)]++s))),e]
        have t1:(u:Int).tmod 10=((u % 10:Nat):Int):=rfl
        have t2:(u:Int).tdiv 10=((u / 10:Nat):Int):=rfl
        unfold bL
        simp only []
        rw [if_pos (by omega),t1,t2,wi (n:=48+((u % 10:Nat):Int)) (by omega),wi (n:=((u / 10:Nat):Int)) (by omega)]
        simp only [eE,Option.bind_some]
        rw [show (48+((u % 10:Nat):Int))=((48+u % 10:Nat):Int) by omega,oV (by omega),eS,fU (by rw [aM,aM];simp;omega),hF]
        rfl
theorem pC (k u:Nat) (h:u < 9223372036854775808):aL (k+1) (u:Int)=some (eI (decDigits u)):=by
  show bB (aL k) (u:Int)=_
  obtain ⟨d,s',e,h3,h4,h5⟩:=lR 18 u [] (by omega) h (by simp)
  unfold bB
  rw [if_neg (by omega),show (⟨#[]⟩:ByteArray)=eI [] from rfl,e]
  simp only [Option.bind_some,eE]
  rw [wi (by omega),oV (by omega),show (48+(d:Int))=((48+d:Nat):Int) by omega,eS,fU (by rw [aM,aM];simp;omega),hF,h5]
  simp
theorem nD:∀ (m k u:Nat),m≤k→1≤u→u < 10 ^ m→m≤19→u≤9223372036854775808→aL k (-(u:Int))=some (eI (45::decDigits u))
  | 0,_,u,_,h1,h2,_,_=>by simp at h2;omega
  | m+1,0,_,hk,_,_,_,_=>by omega
  | m+1,k+1,u,hk,h1,h2,hm,h3=>by
    have t1:(-(u:Int)).tmod 10=-((u % 10:Nat):Int):=by rw [Int.neg_tmod];rfl
    have t2:(-(u:Int)).tdiv 10=-((u / 10:Nat):Int):=by rw [Int.neg_tdiv];rfl
    show bB (aL k) (-(u:Int))=_
    unfold bB
    rw [if_pos (by omega),t1,t2,wi (n:=-((u / 10:Nat):Int)) (by omega)]
    by_cases c:u < 10
    · rw [if_pos (by omega),wi (by omega),oV (by omega)]
      simp only [Option.bind_some,eE]
      rw [show (48 - -(u:Int))=((48+u:Nat):Int) by omega,eS,show (⟨#[45]⟩:ByteArray)=eI [45] from rfl,fU (by rw [aM,aM];simp),hF,hC c]
      rfl
    · rw [if_neg (by omega),nD m k (u / 10) (by omega) (by omega) (by rw [Nat.pow_succ] at h2;omega) (by omega) (by omega),wi (by omega),oV (by omega)]
      simp only [Option.bind_some,eE]
      have hl:(decDigits (u / 10)).length≤18+1:=kV 18 _ (by omega)
      rw [show (48 - -((u % 10:Nat):Int))=((48+u % 10:Nat):Int) by omega,eS,fU (by rw [aM,aM];simp;omega),hF,mN c]
      rfl
theorem nI (a:Int) (h:-9223372036854775808≤a∧a≤9223372036854775807):bO a=some (eI (itoa a)):=by
  unfold itoa
  by_cases c:a < 0
  · rw [if_pos c]
    have:=nD 19 64 a.natAbs (by omega) (by omega) (by omega) (by omega) (by omega)
    rwa [show -((a.natAbs:Nat):Int)=a by omega] at this
  · rw [if_neg c]
    have:=pC 63 a.toNat (by omega)
    rwa [show ((a.toNat:Nat):Int)=a by omega] at this
theorem gX (a:Int) (h:-9223372036854775808≤a∧a≤9223372036854775807):(itoa a).length≤20:=by
  unfold itoa
  split
  · rw [List.length_cons]
    have:=kV 18 a.natAbs (by omega)
    omega
  · have:=kV 18 a.toNat (by omega)
    omega
end Go.Ev
/- Plain laws of the helpers of the exact laws: sizes, copies, comparisons, marks. -/
namespace Go.Ev
set_option linter.all false
theorem lD (y:Factor):bU y=some y:=by simp [bU,dX]
theorem mD (f:Factor) (left:Int) (h:0≤left∧left≤1048576) (h1:f.fFrom.size≤9223372036854775807) (h2:f.fTo.size≤9223372036854775807) :
    ∃ r,cL f left=some r∧r≤left∧-1≤r∧(0≤r→f.fFrom.size≤1048576∧f.fTo.size≤1048576):=by
  unfold cL
  simp only [eE]
  rw [wi (n:=left - f.fFrom.size) (by omega)]
  split
  · exact ⟨-1,rfl,by omega,by omega,by omega⟩
  · rw [wi (n:=left - f.fFrom.size - f.fTo.size) (by omega)]
    split
    · exact ⟨-1,rfl,by omega,by omega,by omega⟩
    · exact ⟨_,rfl,by omega,by omega,by omega⟩
def pG (f:Factor):Prop:=f.fFrom.size≤9223372036854775807∧f.fTo.size≤9223372036854775807
end Go.Ev
/- Plain laws: names, valid factors, lists of factors. -/
namespace Go.Ev
set_option linter.all false
theorem iJ (s:ByteArray) (k:Nat) (h:k < s.size):dH s (k:Int)=some ((s.data.toList.getD k 0).toNat:Int):=by
  unfold dH;rw [if_pos ⟨by omega,by omega⟩];simp
end Go.Ev
/- Plain laws: names, valid factors, factor lists. -/
namespace Go.Ev
set_option linter.all false
section
variable {ρ:Type}
theorem oC {α:Type} {step:Int→Option (Int ⊕ (Unit ⊕ α))} (n:Nat) (bad:Nat→Bool) (x:α) (h1:∀ k:Nat,k < n→step (k:Int)=some (if bad k then .inr (.inr x) else .inl ((k+1:Nat):Int))) (h2:step (n:Int)=some (.inr (.inl ()))) :
    lp step 0=some (if (List.range n).any bad then .inr x else .inl ()):=by
  obtain ⟨r,e,q⟩:=nL (step:=step) n (fun r=>r=if (List.range n).any bad then .inr x else .inl ()) (fun k=>∀ i,i < k→bad i=false) (by intro i h;omega)
    (fun k hk hj=>by
      rw [h1 k hk]
      by_cases hb:bad k=true
      · right
        rw [if_pos hb]
        refine ⟨_,rfl,?_⟩
        rw [if_pos]
        exact List.any_eq_true.2 ⟨k,List.mem_range.2 hk,hb⟩
      · left
        rw [if_neg hb]
        refine ⟨rfl,fun i hi=>?_⟩
        by_cases e:i=k
        · subst e;exact Bool.eq_false_iff.2 hb
        · exact hj i (by omega))
    (fun hj=>by
      refine ⟨_,h2,?_⟩
      rw [if_neg]
      intro h
      obtain ⟨i,hi,hb⟩:=List.any_eq_true.1 h
      rw [hj i (List.mem_range.1 hi)] at hb
      exact Bool.noConfusion hb)
  rw [e,q]
end
def eC (p:Pose):Prop:=0≤p.fTurn∧p.fTurn≤3∧-1000000≤p.fX∧p.fX≤1000000∧-1000000≤p.fY∧p.fY≤1000000
instance (p:Pose):Decidable (eC p):=by unfold eC;infer_instance
theorem nN (x:Int):cH x=some (decide (-1000000≤x∧x≤1000000)):=by
  unfold cH
  by_cases h:-1000000≤x <;> simp [h]
theorem iP (p:Pose):bA p=some (decide (eC p)):=by
  unfold bA bE eC
  by_cases h1:0≤p.fTurn <;> by_cases h2:p.fTurn≤3 <;> by_cases h3:-1000000≤p.fX <;> by_cases h4:p.fX≤1000000 <;> by_cases h5:-1000000≤p.fY <;> simp [h1,h2,h3,h4,h5]
theorem jE (p:Pose):bD p=some (decide (eC p)):=by
  unfold bD eC
  simp only [nN]
  by_cases h1:0≤p.fTurn <;> by_cases h2:p.fTurn≤3 <;> by_cases h3:-1000000≤p.fX <;> by_cases h4:p.fX≤1000000 <;> by_cases h5:-1000000≤p.fY <;> simp [h1,h2,h3,h4,h5]
def mQ (s:ByteArray) (k:Nat):Bool :=
  !(decide ((97:Int)≤((s.data.toList.getD k 0).toNat:Int)∧((s.data.toList.getD k 0).toNat:Int)≤122))&&(decide (k=0)||!(decide ((48:Int)≤((s.data.toList.getD k 0).toNat:Int)∧((s.data.toList.getD k 0).toNat:Int)≤57)))
def fI (s:ByteArray):Bool:=decide (1≤s.size∧s.size≤8)&&!((List.range s.size).any (mQ s))
theorem iQ (s:ByteArray) (h:s.size≤9223372036854775807):cR s=some (fI s):=by
  unfold cR
  rw [oC (step:=bZ s) s.size (mQ s) false
    (fun k hk=>by
      unfold bZ
      rw [if_pos (by omega),iJ s k hk,wi (by omega)]
      simp only [Option.bind_some]
      unfold mQ
      generalize ((s.data.toList.getD k 0).toNat:Int)=b
      by_cases h1:97≤b <;> by_cases h2:b≤122 <;> by_cases h3:k=0 <;> by_cases h4:b < 48 <;> by_cases h5:57 < b <;> first | (exfalso;omega) | (have h6:(48≤b)=(¬b < 48):=by simp) ;(have h7:(b≤57)=(¬57 < b):=by simp) ;simp only [h6,h7] ;simp [h1,h2,h3,h4,h5])
    (by unfold bZ;rw [if_neg (by omega)])]
  unfold fI bE
  by_cases hb:(List.range s.size).any (mQ s)=true
  · simp [hb]
  · simp only [Bool.not_eq_true] at hb
    simp only [hb]
    by_cases h1:(1:Int)≤s.size
    · have:1≤s.size:=by omega
      by_cases h2:s.size≤8 <;> simp [h1,h2,this] <;> omega
    · have:¬1≤s.size:=by omega
      simp [h1,this]
theorem jF (s:ByteArray) (h:s.size≤9223372036854775807):cS s=some (fI s):=by
  unfold cS
  rw [oC (step:=cD s) s.size (mQ s) false
    (fun k hk=>by
      unfold cD
      rw [if_pos (by omega),iJ s k hk,wi (by omega)]
      simp only [Option.bind_some]
      unfold mQ
      generalize ((s.data.toList.getD k 0).toNat:Int)=b
      by_cases h1:97≤b <;> by_cases h2:b≤122 <;> by_cases h3:k=0 <;> by_cases h4:48≤b <;> by_cases h5:b≤57 <;> simp [h1,h2,h3,h4,h5] <;> omega)
    (by unfold cD;rw [if_neg (by omega)])]
  unfold fI
  by_cases hb:(List.range s.size).any (mQ s)=true
  · by_cases h1:(s.size:Int) < 1 <;> simp [hb,h1]
  · simp only [Bool.not_eq_true] at hb
    simp only [hb]
    by_cases h1:(s.size:Int) < 1 <;> by_cases h2:(8:Int) < s.size <;> simp [h1,h2] <;> omega
def bS (c:Nat) (s:ByteArray):Bool:=fI s&&decide ((s.data.toList.getD 0 0).toNat=c)
theorem fH {c:Nat} {s:ByteArray} (h:bS c s=true):s≠(⟨#[]⟩:ByteArray):=by
  rintro rfl
  have h:=(Bool.and_eq_true _ _ ▸ h:_∧_).1
  unfold fI at h
  simp only [Bool.and_eq_true,decide_eq_true_eq] at h
  exact absurd h.1.1 (by decide)
theorem kB {s:ByteArray} (h:fI s=true):0 < s.size:=by
  unfold fI at h
  simp only [Bool.and_eq_true,decide_eq_true_eq] at h
  omega
theorem eO (s:ByteArray) (h:s.size≤9223372036854775807):aR s=some (bS 112 s)∧aS s=some (bS 112 s):=by
  unfold aR aS bS
  rw [iQ s h,jF s h]
  by_cases hb:fI s=true
  · have e:=iJ s 0 (kB hb)
    rw [show ((0:Nat):Int)=0 from rfl] at e
    simp only [Option.bind_some,hb,e,if_true,Bool.true_and]
    constructor <;> (congr 2;simp;omega)
  · simp [hb]
theorem fN (s:ByteArray) (h:s.size≤9223372036854775807):aY s=some (bS 109 s)∧aZ s=some (bS 109 s):=by
  unfold aY aZ bS
  rw [iQ s h,jF s h]
  by_cases hb:fI s=true
  · have e:=iJ s 0 (kB hb)
    rw [show ((0:Nat):Int)=0 from rfl] at e
    simp only [Option.bind_some,hb,e,if_true,Bool.true_and]
    constructor <;> (congr 2;simp;omega)
  · simp [hb]
def jG (f:Factor):Bool :=
  if f.fKind=1 then decide (f.fFrom=(⟨#[]⟩:ByteArray))&&bS 112 f.fTo
  else if f.fKind=2∨f.fKind=4 then bS 112 f.fFrom&&bS 112 f.fTo&&decide (f.fFrom≠f.fTo)
  else if f.fKind=3 then bS 112 f.fFrom&&bS 109 f.fTo&&decide (f.fPose.fTurn=0) else false
def dE (f:Factor):Bool:=decide (0≤f.fId∧f.fId≤99999∧eC f.fPose∧1≤f.fWeight∧f.fWeight≤9999)&&jG f
theorem lC (f:Factor) (h:pG f):bF f=some (dE f)∧bG f=some (dE f):=by
  obtain ⟨h1,h2⟩:=h
  unfold bF bG
  simp only [(eO _ h1).1,(eO _ h1).2,(eO _ h2).1,(eO _ h2).2,(fN _ h2).1,(fN _ h2).2,iP,jE,bE,Option.bind_some]
  have tail:∀ b1 b2 b3:Bool,((if f.fKind=1 then (if f.fFrom=(⟨#[]⟩:ByteArray) then some (bS 112 f.fTo) else some false) else ((if (f.fKind=2) then some (decide (f.fKind=2)) else some (decide (f.fKind=4))):Option Bool).bind (fun d9=>(if d9=true then (if bS 112 f.fFrom=true then (if bS 112 f.fTo=true then some (decide (f.fFrom≠f.fTo)) else some false) else some false) else (if (f.fKind=3) then (if bS 112 f.fFrom=true then (if bS 109 f.fTo=true then some (decide (f.fPose.fTurn=0)) else some false) else some false) else some false)))):Option Bool)=some (jG f):=by
    intro _ _ _
    unfold jG
    by_cases k1:f.fKind=1
    · rw [if_pos k1,if_pos k1];by_cases e:f.fFrom=(⟨#[]⟩:ByteArray) <;> simp [e]
    · rw [if_neg k1,if_neg k1]
      by_cases k2:f.fKind=2
      · simp only [k2,if_true,Option.bind_some,decide_true,true_or]
        cases bS 112 f.fFrom <;> cases bS 112 f.fTo <;> simp
      · by_cases k4:f.fKind=4
        · simp only [k4,if_true,Option.bind_some,decide_true,or_true]
          cases bS 112 f.fFrom <;> cases bS 112 f.fTo <;> simp
        · simp only [k2,k4,if_false,Option.bind_some,decide_false,or_self]
          by_cases k3:f.fKind=3
          · simp only [k3,if_true];cases bS 112 f.fFrom <;> cases bS 109 f.fTo <;> simp
          · simp [k3]
  have t:=tail true true true
  constructor
  · by_cases a:0≤f.fId∧f.fId≤99999∧eC f.fPose∧1≤f.fWeight∧f.fWeight≤9999
    · have e:dE f=jG f:=by unfold dE;rw [decide_eq_true a];rfl
      rw [e,← t]
      obtain ⟨a1,a2,a3,a4,a5⟩:=a
      simp [a1,a2,a3,a4,a5]
    · have e:dE f=false:=by unfold dE;rw [decide_eq_false a];rfl
      rw [e]
      by_cases a1:0≤f.fId <;> by_cases a2:f.fId≤99999 <;> by_cases a3:eC f.fPose <;> by_cases a4:1≤f.fWeight <;> by_cases a5:f.fWeight≤9999 <;> first | (exfalso;exact a ⟨a1,a2,a3,a4,a5⟩) | simp [a1,a2,a3,a4,a5]
  · by_cases a:0≤f.fId∧f.fId≤99999∧eC f.fPose∧1≤f.fWeight∧f.fWeight≤9999
    · have e:dE f=jG f:=by unfold dE;rw [decide_eq_true a];rfl
      rw [e,← t]
      obtain ⟨a1,a2,a3,a4,a5⟩:=a
      rw [if_neg (by omega),if_neg (by omega),decide_eq_true a3,if_pos rfl,if_neg (by omega)]
      simp only [Option.bind_some]
      rw [decide_eq_false (by omega)]
      simp
    · have e:dE f=false:=by unfold dE;rw [decide_eq_false a];rfl
      rw [e]
      by_cases a1:f.fId < 0
      · simp [a1]
      by_cases a2:99999 < f.fId
      · simp [a1,a2]
      by_cases a3:eC f.fPose
      · by_cases a4:f.fWeight < 1
        · simp [a1,a2,a3,a4]
        · by_cases a5:9999 < f.fWeight
          · simp [a1,a2,a3,a4,a5]
          · exfalso;exact a ⟨by omega,by omega,a3,by omega,by omega⟩
      · simp [a1,a2,a3]
end Go.Ev
/- Plain laws: marks of texts and of factors. -/
namespace Go.Ev
set_option linter.all false
end Go.Ev
/- Plain laws: lists of factors, indices of names. -/
namespace Go.Ev
set_option linter.all false
theorem lQ {f:Factor} (h:dE f=true):0≤f.fId∧f.fId≤99999∧eC f.fPose∧1≤f.fWeight∧f.fWeight≤9999∧f.fTo≠(⟨#[]⟩:ByteArray)∧(f.fKind=1∨f.fKind=2∨f.fKind=3∨f.fKind=4)∧(f.fKind=1→f.fFrom=(⟨#[]⟩:ByteArray))∧(f.fKind≠1→f.fFrom≠(⟨#[]⟩:ByteArray))∧(f.fKind=2∨f.fKind=4→f.fFrom≠f.fTo):=by
  unfold dE at h
  simp only [Bool.and_eq_true,decide_eq_true_eq] at h
  obtain ⟨⟨h1,h2,h3,h4,h5⟩,h6⟩:=h
  refine ⟨h1,h2,h3,h4,h5,?_⟩
  unfold jG at h6
  by_cases k1:f.fKind=1
  · rw [if_pos k1] at h6
    simp only [Bool.and_eq_true,decide_eq_true_eq] at h6
    exact ⟨fH h6.2,.inl k1,fun _=>h6.1,fun h=>absurd k1 h,fun h=>by omega⟩
  · rw [if_neg k1] at h6
    by_cases k2:f.fKind=2∨f.fKind=4
    · rw [if_pos k2] at h6
      simp only [Bool.and_eq_true,decide_eq_true_eq] at h6
      exact ⟨fH h6.1.2,by omega,fun h=>absurd h k1,fun _=>fH h6.1.1,fun _=>h6.2⟩
    · rw [if_neg k2] at h6
      by_cases k3:f.fKind=3
      · rw [if_pos k3] at h6
        simp only [Bool.and_eq_true,decide_eq_true_eq] at h6
        exact ⟨fH h6.1.2,by omega,fun h=>absurd h k1,fun _=>fH h6.1.1,fun h=>absurd h k2⟩
      · rw [if_neg k3] at h6;cases h6
end Go.Ev
/- Factors as text: the law of FormatFactor. -/
namespace Go.Ev
set_option linter.all false
open Go.Lib (decDigits itoa)
theorem aK {a b:ByteArray} {β:Type} {k:ByteArray→Option β} (h:a.size+b.size≤9223372036854775807):(chk (a.size+b.size≤9223372036854775807)).bind (fun _=>(bQ (a++b)).bind k)=k (a++b):=by
  rw [fU h];rfl
theorem gT {c:Nat} {s:ByteArray} (h:bS c s=true):s.size≤8:=by
  unfold bS fI at h
  simp only [Bool.and_eq_true,decide_eq_true_eq] at h
  exact h.1.1.2
theorem kZ (a:Int) (h:-9223372036854775808≤a∧a≤9223372036854775807):aX a=some (eI (itoa a)):=by
  unfold aX eN
  rw [fU h];rfl
def mT (t:Int):ByteArray:=if t=0 then ⟨#[101]⟩ else if t=1 then ⟨#[110]⟩ else if t=2 then ⟨#[119]⟩ else ⟨#[115]⟩
theorem pR (t:Int) (h:0≤t∧t≤3):idx ([(⟨#[101]⟩:ByteArray),(⟨#[110]⟩:ByteArray),(⟨#[119]⟩:ByteArray),(⟨#[115]⟩:ByteArray)]) t=some (mT t)∧iO (⟨#[101,110,119,115]⟩:ByteArray) t (IntKind.i64.wrap (t+1))=some (mT t)∧(mT t).size=1:=by
  rw [wi (by omega)]
  rcases (show t=0∨t=1∨t=2∨t=3 by omega) with rfl | rfl | rfl | rfl <;> exact ⟨by decide,by decide,by decide⟩
def lM (p:Pose):ByteArray:=eI (itoa p.fX)++⟨#[44]⟩++eI (itoa p.fY)++⟨#[44]⟩++mT p.fTurn
theorem qC (p:Pose) (h:eC p):bR p=some (lM p)∧bT p=some (lM p)∧(lM p).size≤43:=by
  have hv:=h
  obtain ⟨h1,h2,h3,h4,h5,h6⟩:=h
  have lx:=gX p.fX (by omega)
  have ly:=gX p.fY (by omega)
  obtain ⟨t1,t2,t3⟩:=pR p.fTurn ⟨h1,h2⟩
  have z:(⟨#[44]⟩:ByteArray).size=1:=rfl
  refine ⟨?_,?_,?_⟩
  · unfold bR
    rw [iP,decide_eq_true hv]
    simp only [Option.bind_some,if_true,nI p.fX (by omega),nI p.fY (by omega),t1]
    rw [aK,aK,aK,aK]
    · rfl
    all_goals simp only [ByteArray.size_append,aM,z,t3];omega
  · unfold bT
    rw [jE,decide_eq_true hv]
    simp only [Option.bind_some,if_true,kZ p.fX (by omega),kZ p.fY (by omega),t2]
    rw [aK,aK,aK,aK]
    · rfl
    all_goals simp only [ByteArray.size_append,aM,z,t3];omega
  · unfold lM
    simp only [ByteArray.size_append,aM,z,t3];omega
def lB (k:Int):ByteArray:=if k=1 then ⟨#[112,114,105,111,114]⟩ else if k=2 then ⟨#[111,100,111,109,101,116,114,121]⟩ else if k=3 then ⟨#[108,97,110,100,109,97,114,107]⟩ else ⟨#[108,111,111,112]⟩
theorem pQ (k:Int) (h:k=1∨k=2∨k=3∨k=4):idx ([(⟨#[]⟩:ByteArray),(⟨#[112,114,105,111,114,32]⟩:ByteArray),(⟨#[111,100,111,109,101,116,114,121,32]⟩:ByteArray),(⟨#[108,97,110,100,109,97,114,107,32]⟩:ByteArray),(⟨#[108,111,111,112,32]⟩:ByteArray)]) k=some (lB k++⟨#[32]⟩)∧cM k=some (lB k)∧(lB k).size≤8:=by
  unfold cM lB
  rcases h with rfl | rfl | rfl | rfl <;> exact ⟨by decide,by decide,by decide⟩
def oK (f:Factor):ByteArray:=lB f.fKind++⟨#[32]⟩++eI (itoa f.fId)++(if f.fKind=1 then ⟨#[]⟩ else ⟨#[32]⟩++f.fFrom)++⟨#[32]⟩++f.fTo++⟨#[32]⟩++lM f.fPose++⟨#[32]⟩++eI (itoa f.fWeight)
theorem mL {f:Factor} (h:dE f=true):f.fFrom.size≤8∧f.fTo.size≤8:=by
  unfold dE at h
  simp only [Bool.and_eq_true,decide_eq_true_eq] at h
  obtain ⟨_,h⟩:=h
  unfold jG at h
  split at h
  · simp only [Bool.and_eq_true,decide_eq_true_eq] at h
    exact ⟨by rw [h.1];decide,gT h.2⟩
  · split at h
    · simp only [Bool.and_eq_true,decide_eq_true_eq] at h
      exact ⟨gT h.1.1,gT h.1.2⟩
    · split at h
      · simp only [Bool.and_eq_true,decide_eq_true_eq] at h
        exact ⟨gT h.1.1,gT h.1.2⟩
      · cases h
theorem lX (b:ByteArray):b++(⟨#[]⟩:ByteArray)=b:=by
  apply ByteArray.ext
  simp
theorem oU (f:Factor) (h:dE f=true):aO f=some (oK f)∧aQ f=some (oK f):=by
  obtain ⟨s1,s2⟩:=mL h
  have hb:pG f:=⟨by omega,by omega⟩
  obtain ⟨v1,v2⟩:=lC f hb
  obtain ⟨g1,g2,g3,g4,g5,g6,g7,g8,g9,_⟩:=lQ h
  obtain ⟨p1,p2,p3⟩:=qC f.fPose g3
  obtain ⟨w1,w2,w3⟩:=pQ f.fKind g7
  have li:=gX f.fId (by omega)
  have lw:=gX f.fWeight (by omega)
  have z:(⟨#[32]⟩:ByteArray).size=1:=rfl
  unfold aO aQ oK
  rw [v1,v2,h]
  simp only [Option.bind_some,if_true,nI f.fId (by omega),nI f.fWeight (by omega),kZ f.fId (by omega),kZ f.fWeight (by omega),p1,p2,w1,w2]
  by_cases k:f.fKind=1
  · have e:=g8 k
    simp only [e,ne_eq,not_true,if_false,if_true,k,Option.bind_some] at *
    refine ⟨?_,?_⟩
    · rw [aK,aK,aK,aK,aK,aK,aK]
      · simp only [ByteArray.append_assoc,lX]
      all_goals simp only [ByteArray.size_append,aM,z];omega
    · rw [aK,aK,aK,aK,aK,aK,aK,aK]
      · simp only [← ByteArray.append_assoc,lX]
      all_goals simp only [ByteArray.size_append,aM,z];omega
  · have e:=g9 k
    simp only [ne_eq,e,not_false_eq_true,if_false,if_true,k]
    refine ⟨?_,?_⟩
    · rw [aK,aK,aK,aK]
      · simp only [Option.bind_some]
        rw [aK,aK,aK,aK,aK]
        · simp only [← ByteArray.append_assoc]
        all_goals simp only [ByteArray.size_append,aM,z];omega
      all_goals simp only [ByteArray.size_append,aM,z];omega
    · rw [aK,aK,aK,aK]
      · simp only [Option.bind_some]
        rw [aK,aK,aK,aK,aK,aK]
        all_goals simp only [ByteArray.size_append,aM,z];omega
      all_goals simp only [ByteArray.size_append,aM,z];omega
theorem oT (f:Factor) (hb:pG f) (h:dE f=false):aO f=some (⟨#[]⟩:ByteArray)∧aQ f=some (⟨#[]⟩:ByteArray):=by
  obtain ⟨v1,v2⟩:=lC f hb
  unfold aO aQ
  rw [v1,v2,h]
  exact ⟨rfl,rfl⟩
theorem nM (f:Factor) (h:iX f):aW f=some true:=by
  have hb:pG f:=⟨h.2.2.1,h.2.2.2.1⟩
  obtain ⟨r,e,_⟩:=mD f 1048576 (by omega) hb.1 hb.2
  unfold aW
  rw [e]
  simp only [Option.bind_some]
  split
  · rfl
  simp only [lD,Option.bind_some]
  by_cases g:dE f=true
  · obtain ⟨e1,e2⟩:=oU f g
    simp only [e1,e2,Option.bind_some,ne_eq,not_true,if_false]
  · obtain ⟨e1,e2⟩:=oT f hb (by simpa using g)
    simp only [e1,e2,Option.bind_some,ne_eq,not_true,if_false]
end Go.Ev
