/- Parts LS. -/
import Derived.Shelf.Sort.Plain
import Derived.Shelf.Slices.In.SortNone2
import Derived.Ground.Names2Prog
import Derived.Test.YtachfjpemagdiaaGreatW0
set_option linter.all false
/- The order of ints: what sort.Ints does to an own row. -/
namespace Go.Proofs
open Go.Shelf
def Tryz.lays191_ren:Go.Shelf.Ren:=⟨fun | 191=>56 | 189=>80 | 125=>108 | 257=>107 | 128=>139 | 129=>140 | 294=>130 | 295=>131 | 296=>132 | 297=>133 | 298=>134 | 299=>135 | 216=>136 | 300=>137 | 301=>138 | 328=>157 | 329=>158 | 330=>159 | 331=>160 | 332=>161 | 215=>162 | 343=>178 | n=>n,fun | 28=>27 | 0=>0 | 3=>3 | 46=>117 | 51=>164 | 53=>142 | 4=>4 | 183=>156 | 182=>155 | 131=>161 | 5=>5 | 9=>9 | 218=>167 | 222=>171 | 228=>180 | 229=>181 | n=>n,fun | n=>n⟩
theorem Tryz.lays191:Go.Proofs.Lays.n191 Tryz.prog Tryz.lays191_ren:={
  mixed:=by kernel_rfl
  f125:=Tryz.func108.trans (congrArg some (by kernel_rfl))
  f128:=Tryz.func139.trans (congrArg some (by kernel_rfl))
  f129:=Tryz.func140.trans (congrArg some (by kernel_rfl))
  f189:=Tryz.func80.trans (congrArg some (by kernel_rfl))
  f191:=Tryz.func56.trans (congrArg some (by kernel_rfl))
  f215:=Tryz.func162.trans (congrArg some (by kernel_rfl))
  f216:=Tryz.func136.trans (congrArg some (by kernel_rfl))
  f257:=Tryz.func107.trans (congrArg some (by kernel_rfl))
  f294:=Tryz.func130.trans (congrArg some (by kernel_rfl))
  f295:=Tryz.func131.trans (congrArg some (by kernel_rfl))
  f296:=Tryz.func132.trans (congrArg some (by kernel_rfl))
  f297:=Tryz.func133.trans (congrArg some (by kernel_rfl))
  f298:=Tryz.func134.trans (congrArg some (by kernel_rfl))
  f299:=Tryz.func135.trans (congrArg some (by kernel_rfl))
  f300:=Tryz.func137.trans (congrArg some (by kernel_rfl))
  f301:=Tryz.func138.trans (congrArg some (by kernel_rfl))
  f328:=Tryz.func157.trans (congrArg some (by kernel_rfl))
  f329:=Tryz.func158.trans (congrArg some (by kernel_rfl))
  f330:=Tryz.func159.trans (congrArg some (by kernel_rfl))
  f331:=Tryz.func160.trans (congrArg some (by kernel_rfl))
  f332:=Tryz.func161.trans (congrArg some (by kernel_rfl))
  f343:=Tryz.func178.trans (congrArg some (by kernel_rfl))
  t0:=Tryz.underlying0
  a0:=Tryz.isAgg0
  z0:=Tryz.sizeOf0
  v0:=Tryz.zeroValue0
  t3:=Tryz.underlying3
  a3:=Tryz.isAgg3
  z3:=Tryz.sizeOf3
  v3:=Tryz.zeroValue3
  t4:=Tryz.underlying4
  a4:=Tryz.isAgg4
  z4:=Tryz.sizeOf4
  v4:=Tryz.zeroValue4
  t5:=Tryz.underlying5
  a5:=Tryz.isAgg5
  z5:=Tryz.sizeOf5
  v5:=Tryz.zeroValue5
  t9:=Tryz.underlying9
  a9:=Tryz.isAgg9
  z9:=Tryz.sizeOf9
  v9:=Tryz.zeroValue9
  t28:=Tryz.underlying27
  a28:=Tryz.isAgg27
  z28:=Tryz.sizeOf27
  v28:=Tryz.zeroValue27
  t46:=Tryz.underlying117
  a46:=Tryz.isAgg117
  z46:=Tryz.sizeOf117
  v46:=Tryz.zeroValue117
  t51:=Tryz.underlying164
  a51:=Tryz.isAgg164
  z51:=Tryz.sizeOf164
  v51:=Tryz.zeroValue164
  t53:=Tryz.underlying142
  a53:=Tryz.isAgg142
  z53:=Tryz.sizeOf142
  v53:=Tryz.zeroValue142
  t131:=Tryz.underlying161
  a131:=Tryz.isAgg161
  z131:=Tryz.sizeOf161
  v131:=Tryz.zeroValue161
  t182:=Tryz.underlying155
  a182:=Tryz.isAgg155
  z182:=Tryz.sizeOf155
  v182:=Tryz.zeroValue155
  t183:=Tryz.underlying156
  a183:=Tryz.isAgg156
  z183:=Tryz.sizeOf156
  v183:=Tryz.zeroValue156
  t218:=Tryz.underlying167
  a218:=Tryz.isAgg167
  z218:=Tryz.sizeOf167
  v218:=Tryz.zeroValue167
  t222:=Tryz.underlying171
  a222:=Tryz.isAgg171
  z222:=Tryz.sizeOf171
  v222:=Tryz.zeroValue171
  t228:=Tryz.underlying180
  a228:=Tryz.isAgg180
  z228:=Tryz.sizeOf180
  v228:=Tryz.zeroValue180
  t229:=Tryz.underlying181
  a229:=Tryz.isAgg181
  z229:=Tryz.sizeOf181
  v229:=Tryz.zeroValue181 }
end Go.Proofs
namespace Go.Ev
open Go.Sort Go.RowKit Go.Proofs
set_option linter.all false
def srt (l:List Int):List Int:=l.mergeSort fun x y=>decide (x≤y)
theorem aGq (l:List Int):(srt l).length=l.length:=by unfold srt;exact List.length_mergeSort _
theorem aAV {h:Array Obj} {β:Nat→Option (Option Nat)}:∀ {l:List Int} {cs:Array Value} {i:Nat} {O:List Nat},RelL h true β (l.flatMap (aB .i64)) cs i O↔(O=[]∧∀ j (hj:j < l.length),cs[i+j]?=some (.int .i64 l[j]))
  | [],cs,i,O=>by simp [RelL]
  | x::l,cs,i,O=>by
    simp only [List.flatMap_cons,aB,List.singleton_append,RelL,RelV]
    constructor
    · rintro ⟨c,O1,O2,⟨h1,_⟩,⟨rfl,rfl⟩,h3,rfl⟩
      obtain ⟨rfl,h4⟩:=aAV.1 h3
      refine ⟨rfl,fun j hj=>?_⟩
      cases j with
      | zero=>simpa using h1
      | succ j =>
        have:=h4 j (by simpa using hj)
        rw [show i+(j+1)=i+1+j by omega,this];simp
    · rintro ⟨rfl,h⟩
      have h00:=h 0 (by simp)
      simp only [Nat.add_zero,List.getElem_cons_zero] at h00
      refine ⟨_,[],[],⟨h00,fun _=>rfl⟩,⟨rfl,rfl⟩,aAV.2 ⟨rfl,fun j hj=>?_⟩,rfl⟩
      have:=h (j+1) (by simpa using hj)
      rw [show i+1+j=i+(j+1) by omega,this];simp
theorem aHK (l:List Int) (hl:l.length < 4611686018427387904):MeetsX Tryz.prog 56 [.ref 100000 1 0 l.length] [⟨100000,l.flatMap (aB .i64),(srt l).flatMap (aB .i64)⟩] (.sc (.tuple #[])) true:=by
  intro w cargs ok κ ha hob hκ hinj
  obtain ⟨c,rfl⟩:∃ c,cargs=#[c]:=by
    obtain ⟨h1,_⟩:=ha.get
    cases cargs with
    | mk xs =>
      match xs,h1 with
      | [c],_=>exact ⟨c,rfl⟩
  obtain ⟨⟨B,hr,_⟩,_⟩:=ha
  simp only [RelV] at hr
  obtain ⟨_,hr1,hr2⟩:=hr
  have honly:∀ m b,κ m=some (some b)→m=100000:=fun m b e=>by
    obtain ⟨x,hx,e'⟩:=hκ m _ e
    simp at hx;subst hx;exact e'.symm
  rcases hob ⟨100000,l.flatMap (aB .i64),(srt l).flatMap (aB .i64)⟩ (by simp) with ⟨e1,e2⟩ | ⟨b,cs,t,e1,_,e3,e4⟩
  · simp only at e1 e2
    obtain ⟨hn,_,rfl⟩:=hr1 e1
    have hl0:l=[]:=List.length_eq_zero_iff.1 hn
    subst hl0
    refine (Go.Proofs.Any.sort_Ints_none Go.Proofs.Tryz.lays191 none 0 w).mono fun e w' ⟨he,hw⟩=>?_
    subst hw
    refine ⟨.tuple #[],[],he,⟨rfl,rfl,rfl,Nat.le_refl _⟩,fun b hb _=>rfl,?_,by simp [RelV],by simp,by simp⟩
    intro o ho
    simp at ho;subst ho
    refine ⟨fun _=>by simp [srt],fun b e=>?_⟩
    simp only at e;rw [e1] at e;cases e
  · simp only at e1 e3 e4
    obtain ⟨cap,cs',t',q1,q2,q3,q4⟩:=hr2 b e1
    rw [e3] at q2;cases q2
    subst q1
    simp only [Nat.zero_mul,Nat.zero_add,Nat.mul_one] at q3 ⊢
    obtain ⟨_,hcs⟩:=aAV.1 e4
    have hblt:b < w.heap.size:=by
      rcases Nat.lt_or_ge b w.heap.size with h | h
      · exact h
      · simp [Array.getElem?_eq_none h] at e3
    have hH:Holds (Value.int .i64) w b 0 l.toArray:=by
      intro j hj
      have hj':j < l.length:=by simpa using hj
      have:=hcs j hj'
      simp only [Nat.zero_add] at this ⊢
      constructor
      · unfold World.cell?
        simp only [e3,this]
        simp [hj']
      · unfold World.frozen?
        simp only [e3]
        simp
    refine (Go.Proofs.Any.sort_Ints Go.Proofs.Tryz.lays191 b 0 cap l w hH hblt hl).mono fun e w' ⟨he,n,os,hw⟩=>?_
    have hheap:∀ k,k < w.heap.size→w'.heap[k]?=if k=b then some (.cells (putCells (Value.int .i64) 0 (srt l).toArray cs) t (0,0)) else w.heap[k]?:=by
      intro k hk
      rw [hw]
      unfold grow putRow mapBlock
      have hs:k < ((Sort.ahead w n).heap.modify b (onCells (putCells (Value.int .i64) 0 (srt l).toArray))).size:=by simpa [Sort.ahead] using hk
      show (((Sort.ahead w n).heap.modify b (onCells (putCells (Value.int .i64) 0 (srt l).toArray)))++os)[k]?=_
      rw [Array.getElem?_append_left hs,Array.getElem?_modify]
      by_cases hkb:k=b
      · subst hkb
        simp only [if_true]
        show Option.map _ (w.heap[k]?)=_
        rw [e3];rfl
      · rw [if_neg hkb,if_neg (fun h=>hkb h.symm)];rfl
    refine ⟨.tuple #[],[],he,⟨by rw [hw];rfl,by rw [hw];rfl,by rw [hw];rfl,?_⟩,fun k hk hn=>?_,?_,by simp [RelV],by simp,by simp⟩
    · rw [hw];simp [grow,putRow,mapBlock,Sort.ahead]
    · rw [hheap k hk,if_neg]
      rintro rfl;exact hn 100000 e1
    · intro o ho
      simp at ho;subst ho
      refine ⟨(fun e=>by simp only at e;rw [e1] at e;cases e),fun b' e cs2 t2 hc=>?_⟩
      simp only at e;rw [e1] at e;cases e
      rw [e3] at hc;cases hc
      refine ⟨_,by rw [hheap b hblt,if_pos rfl],by simp [putCells],aAV.2 ⟨rfl,fun j hj=>?_⟩⟩
      have hj2:j < l.length:=by rw [aGq] at hj;exact hj
      have hjc:j < cs.size:=by omega
      simp only [Nat.zero_add,putCells,Array.getElem?_mapIdx,Array.getElem?_eq_getElem hjc,Option.map_some,List.size_toArray]
      rw [if_pos ⟨Nat.zero_le _,hj⟩]
      simp [hj]
instance:FnC Tryz.prog 56:=⟨_,Tryz.func56,by kernel_rfl,by kernel_rfl⟩
noncomputable def aK4 (l:List Int):Option (List Int):=(chk (l.length < 4611686018427387904)).bind fun _=>some (srt l)
theorem aJt {l r:List Int} (H:aK4 l=some r):l.length < 4611686018427387904∧r=srt l:=by
  obtain ⟨u,hu,H⟩:=aC H
  exact ⟨cA hu,(Option.some.inj H).symm⟩
theorem aLO (l r:List Int) (H:aK4 l=some r):r.length=l.length:=by
  obtain ⟨_,rfl⟩:=aJt H
  exact aGq l
theorem aNZ (l r:List Int) (H:aK4 l=some r):MeetsX Tryz.prog 56 [.ref 100000 1 0 l.length] [⟨100000,l.flatMap (aB .i64),r.flatMap (aB .i64)⟩] (.sc (.tuple #[])) true:=by
  obtain ⟨h,rfl⟩:=aJt H
  exact aHK l h
end Go.Ev
