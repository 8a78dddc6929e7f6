/- Parts LS. -/
import Derived.Shelf.Sort.Plain
import Derived.Shelf.Slices.In.SortNone2
import Derived.Ground.Names2Prog
import Derived.Test.YthjpgecdkmiadaaGreatW0
set_option linter.all false
/- The order of ints: what sort.Ints does to an own row. -/
namespace Go.Proofs
open Go.Shelf
def Tryz.lays191_ren:Go.Shelf.Ren:=⟨fun | 191=>138 | 189=>174 | 125=>208 | 257=>207 | 128=>236 | 129=>237 | 294=>227 | 295=>228 | 296=>229 | 297=>230 | 298=>231 | 299=>232 | 216=>233 | 300=>234 | 301=>235 | 328=>238 | 329=>239 | 330=>240 | 331=>241 | 332=>242 | 215=>243 | 343=>244 | n=>n,fun | 28=>23 | 0=>0 | 3=>3 | 46=>181 | 51=>201 | 53=>178 | 4=>4 | 183=>194 | 182=>193 | 131=>162 | 5=>5 | 9=>9 | 218=>203 | 222=>207 | 228=>209 | 229=>210 | n=>n,fun | n=>n⟩
theorem Tryz.lays191:Go.Proofs.Lays.n191 Tryz.prog Tryz.lays191_ren:={
  mixed:=by kernel_rfl
  f125:=Tryz.func208.trans (congrArg some (by kernel_rfl))
  f128:=Tryz.func236.trans (congrArg some (by kernel_rfl))
  f129:=Tryz.func237.trans (congrArg some (by kernel_rfl))
  f189:=Tryz.func174.trans (congrArg some (by kernel_rfl))
  f191:=Tryz.func138.trans (congrArg some (by kernel_rfl))
  f215:=Tryz.func243.trans (congrArg some (by kernel_rfl))
  f216:=Tryz.func233.trans (congrArg some (by kernel_rfl))
  f257:=Tryz.func207.trans (congrArg some (by kernel_rfl))
  f294:=Tryz.func227.trans (congrArg some (by kernel_rfl))
  f295:=Tryz.func228.trans (congrArg some (by kernel_rfl))
  f296:=Tryz.func229.trans (congrArg some (by kernel_rfl))
  f297:=Tryz.func230.trans (congrArg some (by kernel_rfl))
  f298:=Tryz.func231.trans (congrArg some (by kernel_rfl))
  f299:=Tryz.func232.trans (congrArg some (by kernel_rfl))
  f300:=Tryz.func234.trans (congrArg some (by kernel_rfl))
  f301:=Tryz.func235.trans (congrArg some (by kernel_rfl))
  f328:=Tryz.func238.trans (congrArg some (by kernel_rfl))
  f329:=Tryz.func239.trans (congrArg some (by kernel_rfl))
  f330:=Tryz.func240.trans (congrArg some (by kernel_rfl))
  f331:=Tryz.func241.trans (congrArg some (by kernel_rfl))
  f332:=Tryz.func242.trans (congrArg some (by kernel_rfl))
  f343:=Tryz.func244.trans (congrArg some (by kernel_rfl))
  t0:=Tryz.underlying0
  a0:=Tryz.isAgg0
  z0:=Tryz.sizeOf0
  v0:=Tryz.zeroValue0
  t3:=Tryz.underlying3
  a3:=Tryz.isAgg3
  z3:=Tryz.sizeOf3
  v3:=Tryz.zeroValue3
  t4:=Tryz.underlying4
  a4:=Tryz.isAgg4
  z4:=Tryz.sizeOf4
  v4:=Tryz.zeroValue4
  t5:=Tryz.underlying5
  a5:=Tryz.isAgg5
  z5:=Tryz.sizeOf5
  v5:=Tryz.zeroValue5
  t9:=Tryz.underlying9
  a9:=Tryz.isAgg9
  z9:=Tryz.sizeOf9
  v9:=Tryz.zeroValue9
  t28:=Tryz.underlying23
  a28:=Tryz.isAgg23
  z28:=Tryz.sizeOf23
  v28:=Tryz.zeroValue23
  t46:=Tryz.underlying181
  a46:=Tryz.isAgg181
  z46:=Tryz.sizeOf181
  v46:=Tryz.zeroValue181
  t51:=Tryz.underlying201
  a51:=Tryz.isAgg201
  z51:=Tryz.sizeOf201
  v51:=Tryz.zeroValue201
  t53:=Tryz.underlying178
  a53:=Tryz.isAgg178
  z53:=Tryz.sizeOf178
  v53:=Tryz.zeroValue178
  t131:=Tryz.underlying162
  a131:=Tryz.isAgg162
  z131:=Tryz.sizeOf162
  v131:=Tryz.zeroValue162
  t182:=Tryz.underlying193
  a182:=Tryz.isAgg193
  z182:=Tryz.sizeOf193
  v182:=Tryz.zeroValue193
  t183:=Tryz.underlying194
  a183:=Tryz.isAgg194
  z183:=Tryz.sizeOf194
  v183:=Tryz.zeroValue194
  t218:=Tryz.underlying203
  a218:=Tryz.isAgg203
  z218:=Tryz.sizeOf203
  v218:=Tryz.zeroValue203
  t222:=Tryz.underlying207
  a222:=Tryz.isAgg207
  z222:=Tryz.sizeOf207
  v222:=Tryz.zeroValue207
  t228:=Tryz.underlying209
  a228:=Tryz.isAgg209
  z228:=Tryz.sizeOf209
  v228:=Tryz.zeroValue209
  t229:=Tryz.underlying210
  a229:=Tryz.isAgg210
  z229:=Tryz.sizeOf210
  v229:=Tryz.zeroValue210 }
end Go.Proofs
namespace Go.Ev
open Go.Sort Go.RowKit Go.Proofs
set_option linter.all false
def srt (l:List Int):List Int:=l.mergeSort fun x y=>decide (x≤y)
theorem aGM (l:List Int):(srt l).length=l.length:=by unfold srt;exact List.length_mergeSort _
theorem aBq {h:Array Obj} {β:Nat→Option (Option Nat)}:∀ {l:List Int} {cs:Array Value} {i:Nat} {O:List Nat},RelL h true β (l.flatMap (aB .i64)) cs i O↔(O=[]∧∀ j (hj:j < l.length),cs[i+j]?=some (.int .i64 l[j]))
  | [],cs,i,O=>by simp [RelL]
  | x::l,cs,i,O=>by
    simp only [List.flatMap_cons,aB,List.singleton_append,RelL,RelV]
    constructor
    · rintro ⟨c,O1,O2,⟨h1,_⟩,⟨rfl,rfl⟩,h3,rfl⟩
      obtain ⟨rfl,h4⟩:=aBq.1 h3
      refine ⟨rfl,fun j hj=>?_⟩
      cases j with
      | zero=>simpa using h1
      | succ j =>
        have:=h4 j (by simpa using hj)
        rw [show i+(j+1)=i+1+j by omega,this];simp
    · rintro ⟨rfl,h⟩
      have h00:=h 0 (by simp)
      simp only [Nat.add_zero,List.getElem_cons_zero] at h00
      refine ⟨_,[],[],⟨h00,fun _=>rfl⟩,⟨rfl,rfl⟩,aBq.2 ⟨rfl,fun j hj=>?_⟩,rfl⟩
      have:=h (j+1) (by simpa using hj)
      rw [show i+1+j=i+(j+1) by omega,this];simp
theorem aHR (l:List Int) (hl:l.length < 4611686018427387904):MeetsX Tryz.prog 138 [.ref 100000 1 0 l.length] [⟨100000,l.flatMap (aB .i64),(srt l).flatMap (aB .i64)⟩] (.sc (.tuple #[])) true:=by
  intro w cargs ok κ ha hob hκ hinj
  obtain ⟨c,rfl⟩:∃ c,cargs=#[c]:=by
    obtain ⟨h1,_⟩:=ha.get
    cases cargs with
    | mk xs =>
      match xs,h1 with
      | [c],_=>exact ⟨c,rfl⟩
  obtain ⟨⟨B,hr,_⟩,_⟩:=ha
  simp only [RelV] at hr
  obtain ⟨_,hr1,hr2⟩:=hr
  have honly:∀ m b,κ m=some (some b)→m=100000:=fun m b e=>by
    obtain ⟨x,hx,e'⟩:=hκ m _ e
    simp at hx;subst hx;exact e'.symm
  rcases hob ⟨100000,l.flatMap (aB .i64),(srt l).flatMap (aB .i64)⟩ (by simp) with ⟨e1,e2⟩ | ⟨b,cs,t,e1,_,e3,e4⟩
  · simp only at e1 e2
    obtain ⟨hn,_,rfl⟩:=hr1 e1
    have hl0:l=[]:=List.length_eq_zero_iff.1 hn
    subst hl0
    refine (Go.Proofs.Any.sort_Ints_none Go.Proofs.Tryz.lays191 none 0 w).mono fun e w' ⟨he,hw⟩=>?_
    subst hw
    refine ⟨.tuple #[],[],he,⟨rfl,rfl,rfl,Nat.le_refl _⟩,fun b hb _=>rfl,?_,by simp [RelV],by simp,by simp⟩
    intro o ho
    simp at ho;subst ho
    refine ⟨fun _=>by simp [srt],fun b e=>?_⟩
    simp only at e;rw [e1] at e;cases e
  · simp only at e1 e3 e4
    obtain ⟨cap,cs',t',q1,q2,q3,q4⟩:=hr2 b e1
    rw [e3] at q2;cases q2
    subst q1
    simp only [Nat.zero_mul,Nat.zero_add,Nat.mul_one] at q3 ⊢
    obtain ⟨_,hcs⟩:=aBq.1 e4
    have hblt:b < w.heap.size:=by
      rcases Nat.lt_or_ge b w.heap.size with h | h
      · exact h
      · simp [Array.getElem?_eq_none h] at e3
    have hH:Holds (Value.int .i64) w b 0 l.toArray:=by
      intro j hj
      have hj':j < l.length:=by simpa using hj
      have:=hcs j hj'
      simp only [Nat.zero_add] at this ⊢
      constructor
      · unfold World.cell?
        simp only [e3,this]
        simp [hj']
      · unfold World.frozen?
        simp only [e3]
        simp
    refine (Go.Proofs.Any.sort_Ints Go.Proofs.Tryz.lays191 b 0 cap l w hH hblt hl).mono fun e w' ⟨he,n,os,hw⟩=>?_
    have hheap:∀ k,k < w.heap.size→w'.heap[k]?=if k=b then some (.cells (putCells (Value.int .i64) 0 (srt l).toArray cs) t (0,0)) else w.heap[k]?:=by
      intro k hk
      rw [hw]
      unfold grow putRow mapBlock
      have hs:k < ((Sort.ahead w n).heap.modify b (onCells (putCells (Value.int .i64) 0 (srt l).toArray))).size:=by simpa [Sort.ahead] using hk
      show (((Sort.ahead w n).heap.modify b (onCells (putCells (Value.int .i64) 0 (srt l).toArray)))++os)[k]?=_
      rw [Array.getElem?_append_left hs,Array.getElem?_modify]
      by_cases hkb:k=b
      · subst hkb
        simp only [if_true]
        show Option.map _ (w.heap[k]?)=_
        rw [e3];rfl
      · rw [if_neg hkb,if_neg (fun h=>hkb h.symm)];rfl
    refine ⟨.tuple #[],[],he,⟨by rw [hw];rfl,by rw [hw];rfl,by rw [hw];rfl,?_⟩,fun k hk hn=>?_,?_,by simp [RelV],by simp,by simp⟩
    · rw [hw];simp [grow,putRow,mapBlock,Sort.ahead]
    · rw [hheap k hk,if_neg]
      rintro rfl;exact hn 100000 e1
    · intro o ho
      simp at ho;subst ho
      refine ⟨(fun e=>by simp only at e;rw [e1] at e;cases e),fun b' e cs2 t2 hc=>?_⟩
      simp only at e;rw [e1] at e;cases e
      rw [e3] at hc;cases hc
      refine ⟨_,by rw [hheap b hblt,if_pos rfl],by simp [putCells],aBq.2 ⟨rfl,fun j hj=>?_⟩⟩
      have hj2:j < l.length:=by rw [aGM] at hj;exact hj
      have hjc:j < cs.size:=by omega
      simp only [Nat.zero_add,putCells,Array.getElem?_mapIdx,Array.getElem?_eq_getElem hjc,Option.map_some,List.size_toArray]
      rw [if_pos ⟨Nat.zero_le _,hj⟩]
      simp [hj]
instance:FnC Tryz.prog 138:=⟨_,Tryz.func138,by kernel_rfl,by kernel_rfl⟩
noncomputable def aKM (l:List Int):Option (List Int):=(chk (l.length < 4611686018427387904)).bind fun _=>some (srt l)
theorem aJt {l r:List Int} (H:aKM l=some r):l.length < 4611686018427387904∧r=srt l:=by
  obtain ⟨u,hu,H⟩:=aC H
  exact ⟨bZ hu,(Option.some.inj H).symm⟩
theorem aLm (l r:List Int) (H:aKM l=some r):r.length=l.length:=by
  obtain ⟨_,rfl⟩:=aJt H
  exact aGM l
theorem aM4 (l r:List Int) (H:aKM l=some r):MeetsX Tryz.prog 138 [.ref 100000 1 0 l.length] [⟨100000,l.flatMap (aB .i64),r.flatMap (aB .i64)⟩] (.sc (.tuple #[])) true:=by
  obtain ⟨h,rfl⟩:=aJt H
  exact aHR l h
end Go.Ev
