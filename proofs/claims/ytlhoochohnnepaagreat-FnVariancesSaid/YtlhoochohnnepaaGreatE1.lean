/- Parts EvA, EvB, EvC, EvD, EvE, EvF. -/
import Derived.Orders
import Derived.Below
import Derived.Laws.Append
import Derived.Laws.AppendOwn
import Derived.Laws.MakeOwn
import Derived.Laws.Tables
import Derived.Laws.Rows
import Derived.Laws.Strings
import Derived.Laws.Slices
import Derived.Laws.Small
import Derived.Laws.Concat
import Derived.Laws.BytesString
import Derived.Laws.CopyRow
import Derived.ArgAppend
set_option linter.all false
set_option maxHeartbeats 4000000
set_option maxRecDepth 20000
/- The engine, part A: abstract by-value values, and how they stand to the machine's values. -/
namespace Go.Ev
def aTb:=@_root_.Option.bind_some
def aTc:=@_root_.if_neg
def aTd:=@_root_.if_pos
def aTe:=@_root_.decide_eq_false
def aTf:=@_root_.List.mem_cons
def aTg:=@_root_.decide_eq_true
def aTh:=@_root_.List.drop_eq_getElem_cons
def aTi:=@_root_.List.nil_append
def aTj:=@_root_.List.mem_append
def aTk:=@_root_.Bool.false_eq_true
def aTl:=@_root_.List.getElem?_eq_getElem
def aTm:=@_root_.List.cons_append
def aTn:=@_root_.Nat.le_refl
def aTo:=@_root_.List.map_cons
def aTp:=@_root_.Nat.lt_of_lt_of_le
def aTq:=@_root_.List.length_eq_zero_iff
def aTr:=@_root_.Nat.le_trans
def aTs:=@_root_.List.length_map
def aTt:=@_root_.List.getD_eq_getElem?_getD
def aTu:=@_root_.List.mem_map
def aTv:=@_root_.List.getElem_mem
def aTw:=@_root_.List.nodup_append
def aTx:=@_root_.List.append_assoc
def aTy:=@_root_.Array.getD_eq_getD_getElem?
def aTz:=@_root_.if_true
def aTA:=@_root_.Nat.mul_le_mul_left
def aTB:=@_root_.Bool.and_eq_true
def aTC:=@_root_.Nat.zero_add
def aTD:=@_root_.if_false
def aTE:=@_root_.List.drop_eq_nil_of_le
def aTF:=@_root_.List.length_append
def aTG:=@_root_.List.length_cons
def aTH:=@_root_.List.getElem?_eq_some_iff
def aTI:=@_root_.List.mem_filter
def aTJ:=@_root_.Int.toNat_natCast
def aTK:=@_root_.Nat.mul_le_mul
def aTL:=@_root_.Nat.le_of_ble_eq_true
def aTM:=@_root_.of_decide_eq_true
def aTN:=@_root_.Nat.eq_of_beq_eq_true
def aTO:=@_root_.List.flatMap_cons
def aTP:=@_root_.List.filter_cons
def aTQ:=@_root_.List.pairwise_cons
def aTR:=@_root_.Nat.mul_comm
def aTS:=@_root_.List.length_take
def aTT:=@_root_.List.mem_cons_of_mem
def aTU:=@_root_.List.mem_singleton
def aTV:=@_root_.Rat.mul_nonneg
def aTW:=@_root_.Nat.mul_pos
def aTX:=@_root_.Nat.add_zero
def aTY:=@_root_.List.length_singleton
def aTZ:=@_root_.List.drop_zero
def aT0:=@_root_.List.getElem?_append_right
def aT1:=@_root_.List.take_of_length_le
def aT2:=@_root_.Bool.or_eq_true
def aT3:=@_root_.Nat.mul_assoc
def aT4:=@_root_.Nat.pow_le_pow_right
def aT5:=@_root_.List.mem_append_left
def aT6:=@_root_.List.take_append_drop
def aT7:=@_root_.List.mem_append_right
def aT8:=@_root_.List.map_nil
def aT9:=@_root_.Nat.zero_le
def aUa:=@_root_.Array.getElem?_eq_none
def aUb:=@_root_.Int.natAbs_natCast
def aUc:=@_root_.List.map_append
def aUd:=@_root_.List.getElem?_append_left
def aUe:=@_root_.List.nodup_cons
def aUf:=@_root_.List.append_nil
def aUg:=@_root_.List.getElem?_drop
def aUh:=@_root_.Bool.not_true
def aUi:=@_root_.Rat.natCast_mul
def aUj:=@_root_.Nat.mul_le_mul_right
def aUk:=@_root_.List.singleton_append
def aUl:=@_root_.Array.getElem?_append
def aUm:=@_root_.List.mem_map_of_mem
def aUn:=@_root_.Nat.lt_or_ge
def aUo:=@_root_.List.drop_length
def aUp:=@_root_.List.getElem?_take
def aUq:=@_root_.List.length_nil
def aUr:=@_root_.List.length_drop
def aUs:=@_root_.decide_eq_true_eq
def aUt:=@_root_.List.getElem_cons_zero
def aUu:=@_root_.Nat.lt_of_le_of_lt
def aUv:=@_root_.List.filter_filter
def aUw:=@_root_.Nat.pow_succ
def aUx:=@_root_.Array.getElem?_eq_some_iff
def aUy:=@_root_.Nat.mul_add
def aUz:=@_root_.List.take_length
def aUA:=@_root_.Nat.pow_one
def aUB:=@_root_.List.replicate_succ
def aUC:=@_root_.List.pairwise_map
def aUD:=@_root_.List.getElem?_toArray
def aUE:=@_root_.Int.natAbs_mul
def aUF:=@_root_.Nat.le_mul_of_pos_right
def aUG:=@_root_.List.foldl_cons
def aUH:=@_root_.List.pairwise_append
def aUI:=@_root_.Nat.succ_mul
def aUJ:=@_root_.Nat.mod_eq_of_lt
def aUK:=@_root_.List.map_map
def aUL:=@_root_.List.getElem_map
def aUM:=@_root_.List.flatMap_nil
def aUN:=@_root_.Nat.pow_le_pow_left
def aUO:=@_root_.List.filter_congr
def aUP:=@_root_.Nat.min_eq_left
def aUQ:=@_root_.Nat.div_lt_iff_lt_mul
def aUR:=@_root_.Classical.em
def aUS:=@_root_.Nat.pos_of_ne_zero
def aUT:=@_root_.Nat.dvd_mul_left
def aUU:=@_root_.Nat.sub_zero
def aUV:=@_root_.Nat.sub_self
def aUW:=@_root_.Nat.mod_lt
def aUX:=@_root_.List.flatMap_append
def aUY:=@_root_.List.filter_nil
def aUZ:=@_root_.List.getElem?_set_self
def aU0:=@_root_.List.mem_flatMap
def aU1:=@_root_.List.length_filter_le
def aU2:=@_root_.List.pairwise_iff_getElem
def aU3:=@_root_.Array.getElem?_eq_getElem
def aU4:=@_root_.Nat.mul_dvd_mul_left
def aU5:=@_root_.Rat.mul_le_mul_of_nonneg_right
def aU6:=@_root_.Nat.zero_mul
def aU7:=@_root_.List.eq_nil_iff_forall_not_mem
def aU8:=@_root_.decide_true
def aU9:=@_root_.decide_eq_false_iff_not
def aVa:=@_root_.List.take_succ_cons
def aVb:=@_root_.List.getElem_of_mem
def aVc:=@_root_.List.not_mem_nil
def aVd:=@_root_.Rat.natCast_le_natCast
def aVe:=@_root_.Rat.intCast_le_intCast
def aVf:=@_root_.List.getElem_cons_succ
def aVg:=@_root_.of_decide_eq_false
def aVh:=@_root_.decide_eq_true_iff
def aVi:=@_root_.List.mem_cons_self
def aVj:=@_root_.List.filter_append
def aVk:=@_root_.dif_pos
def aVl:=@_root_.dif_neg
def aVm:=@_root_.Rat.intCast_mul
def aVn:=@_root_.Nat.mul_zero
def aVo:=@_root_.Nat.mod_add_div
def aVp:=@_root_.List.set_append_right
def aVq:=@_root_.List.eq_nil_or_concat
def aVr:=@_root_.List.concat_eq_append
def aVs:=@_root_.Nat.mul_left_comm
def aVt:=@_root_.Nat.dvd_mul_right
def aVu:=@_root_.Bool.not_eq_true'
def aVv:=@_root_.Array.getElem?_append_left
def aVw:=@_root_.List.take_zero
def aVx:=@_root_.Int.mul_neg_of_neg_of_pos
def aVy:=@_root_.Bool.not_false
def aVz:=@_root_.Array.length_toList
def aVA:=@_root_.decide_false
def aVB:=@_root_.Nat.gcd_pos_of_pos_right
def aVC:=@_root_.Nat.dvd_trans
def aVD:=@_root_.Nat.div_lt_self
def aVE:=@_root_.Nat.div_le_self
def aVF:=@_root_.List.sum_cons
def aVG:=@_root_.List.set_cons_zero
def aVH:=@_root_.List.getElem?_cons_succ
def aVI:=@_root_.List.find?_cons
def aVJ:=@_root_.List.take_add_one
def aVK:=@_root_.Array.getElem?_setIfInBounds_ne
def aVL:=@_root_.List.take_succ
def aVM:=@_root_.List.mem_range
def aVN:=@_root_.List.getElem?_eq_none
def aVO:=@_root_.Nat.div_eq_of_lt
def aVP:=@_root_.List.mem_of_mem_take
def aVQ:=@_root_.List.mem_of_mem_drop
def aVR:=@_root_.List.mem_iff_getElem
def aVS:=@_root_.List.getElem?_set_ne
def aVT:=@_root_.Bool.true_and
def aVU:=@_root_.Bool.false_or
def aVV:=@_root_.cond_true
def aVW:=@_root_.List.map_congr_left
def aVX:=@_root_.List.drop_succ_cons
def aVY:=@_root_.Rat.le_of_mul_le_mul_right
def aVZ:=@_root_.Rat.mul_pos
def aV0:=@_root_.Int.eq_ofNat_of_zero_le
def aV1:=@_root_.Bool.or_false
def aV2:=@_root_.Rat.natCast_lt_natCast
def aV3:=@_root_.Rat.intCast_lt_intCast
def aV4:=@_root_.Option.map_some
def aV5:=@_root_.List.set_getElem_self
def aV6:=@_root_.List.length_set
open Go.RowKit (Below)
inductive PV where
 | sc (v:Value)
 | sl (n:Nat) (cells:List PV)
 | ref (l s off n:Nat)
 | ptr (l k:Nat)
 | iptr (cells:List PV)
 | rw(s n:Nat) (cells:List PV)
 | agg (cells:List PV)
 | tup (vs:List PV)
 | any
 | was (v:Value) (p:PV)
 deriving Inhabited
def dead:Nat->Option (Option Nat):=fun _=>none
mutual
def RelV (h:Array Obj):(Nat->Option (Option Nat))->PV->Value->List Nat->Prop
 | _,.sc v,c,O=>c=v/\O=[]
 | _,.sl n cells,c,O=>(n=0/\cells=[]/\O=[]/\∃ a cap,c=.slice a 0 cap)\/
  ∃ b off cap cs t f O',(c=.slice (some ⟨b,off,none⟩) n cap/\n<=cap)/\h[b]?=some (.cells cs t f)/\RelL h true dead cells cs off O'/\O=b::O'
 | β,.ref l s off n,c,O=>O=[]/\(β l=some none->n=0/\off=0/\c=.slice none 0 0)/\
  ∀ b,β l=some (some b)->∃ cap cs t,c=.slice (some ⟨b,off*s,none⟩) n cap/\h[b]?=some (.cells cs t (0,0))/\(off+cap)*s<=cs.size/\n<=cap
 | β,.ptr l k,c,O=>O=[]/\∀ b,β l=some (some b)->c=.pointer (some ⟨b,k,none⟩)
 | _,.iptr cells,c,O=>∃ b off cs t f O',c=.pointer (some ⟨b,off,none⟩)/\h[b]?=some (.cells cs t f)/\RelL h true dead cells cs off O'/\O=b::O'
 | _,.rw s n cells,c,O=>(n=0/\cells=[]/\O=[]/\c=.slice none 0 0)\/
  ∃ b cap cs t O',(c=.slice (some ⟨b,0,none⟩) n cap/\n<=cap/\cap*s<=cs.size)/\h[b]?=some (.cells cs t (0,0))/\RelL h true dead cells cs 0 O'/\O=b::O'
 | β,.agg cells,c,O=>∃ cs:Array Value,c=.agg cs/\cs.size=cells.length/\RelL h true β cells cs 0 O
 | β,.tup vs,c,O=>∃ cs:Array Value,c=.tuple cs/\cs.size=vs.length/\RelL h false β vs cs 0 O
 | _,.any,_,O=>O=[]
 | β,.was v p,c,O=>c=v/\RelV h β p c O
def RelL (h:Array Obj)(q:Bool):(Nat->Option (Option Nat))->List PV->Array Value->Nat->List Nat->Prop
 | _,[],_,_,O=>O=[]
 | β,p::ps,cs,i,O=>∃ c O1 O2,(cs[i]?=some c/\(q=true->c.oneCell'=true))/\RelV h β p c O1/\RelL h q β ps cs (i+1) O2/\O=O1++O2
end
def aB6 (h h':Array Obj)(b:Nat):Prop:=∀ cs t,h[b]?=some (.cells cs t (0,0))->∃ cs',h'[b]?=some (.cells cs' t (0,0))/\cs'.size=cs.size
mutual
def PV.labs:PV->List Nat
 | .ref l _ _ _=>[l]
 | .ptr l _=>[l]
 | .agg cells=>aAg cells
 | .tup vs=>aAg vs
 | .was _ p=>p.labs
 | _=>[]
def aAg:List PV->List Nat
 | []=>[]
 | p::ps=>p.labs++aAg ps
end
theorem xA {l:Nat}:∀ {ps:List PV},l∈aAg ps↔∃ p∈ps,l∈p.labs
 | []=>by simp[aAg]
 | p::ps=>by simp[aAg,xA (ps:=ps)]
def KeepB (h h':Array Obj)(β β':Nat->Option (Option Nat))(l:Nat):Prop:=∀ ob,β' l=some ob->β l=some ob/\∀ b,ob=some b->aB6 h h' b
theorem KeepB.dead (h h':Array Obj)(l:Nat):KeepB h h' Ev.dead Ev.dead l:=by intro ob e;cases e
mutual
theorem RelV.keep {h h':Array Obj}{β β':Nat->Option (Option Nat)} :
 ∀ (p:PV) (c:Value) (O:List Nat),(∀ l∈p.labs,KeepB h h' β β' l)->(∀ b∈O,h'[b]?=h[b]?)->RelV h β p c O->RelV h' β' p c O
 | .sc v,c,O,_,_,H=>H
 | .sl n cells,c,O,_,hO,H=>by
  simp only[RelV]at H ⊢
  rcases H with H | ⟨b,off,cap,cs,t,f,O',h1,h2,h3,rfl⟩
  · exact .inl H
  · refine .inr ⟨b,off,cap,cs,t,f,O',h1,?_,?_,rfl⟩
    · rw[hO b (by simp)];exact h2
    · exact RelL.keep cells cs off O' (fun _ _ l _=>KeepB.dead _ _ l) (fun b hb=>hO b (by simp[hb])) h3
 | .ref l s off n,c,O,hβ,_,H=>by
  simp only[RelV]at H ⊢
  have hβ:=hβ l (by simp[PV.labs])
  refine⟨H.1,fun hb=>H.2.1 (hβ _ hb).1,fun b hb=>?_⟩
  obtain⟨hb1,hb2⟩:=hβ _ hb
  obtain⟨cap,cs,t,h1,h2,h3,h4⟩:=H.2.2 b hb1
  obtain⟨cs',h5,h6⟩:=hb2 b rfl cs t h2
  exact⟨cap,cs',t,h1,h5,by rw[h6];exact h3,h4⟩
 | .ptr l k,c,O,hβ,_,H=>by
  simp only[RelV]at H ⊢
  exact⟨H.1,fun b hb=>H.2 b (hβ l (by simp[PV.labs]) _ hb).1⟩
 | .iptr cells,c,O,_,hO,H=>by
  simp only[RelV]at H ⊢
  obtain⟨b,off,cs,t,f,O',h1,h2,h3,rfl⟩:=H
  refine⟨b,off,cs,t,f,O',h1,?_,?_,rfl⟩
  · rw[hO b (by simp)];exact h2
  · exact RelL.keep cells cs off O' (fun _ _ l _=>KeepB.dead _ _ l) (fun b hb=>hO b (by simp[hb])) h3
 | .rw s n cells,c,O,_,hO,H=>by
  simp only[RelV]at H ⊢
  rcases H with H | ⟨b,cap,cs,t,O',h1,h2,h3,rfl⟩
  · exact .inl H
  · refine .inr ⟨b,cap,cs,t,O',h1,?_,?_,rfl⟩
    · rw[hO b (by simp)];exact h2
    · exact RelL.keep cells cs 0 O' (fun _ _ l _=>KeepB.dead _ _ l) (fun b hb=>hO b (by simp[hb])) h3
 | .agg cells,c,O,hβ,hO,H=>by
  simp only[RelV]at H ⊢
  obtain⟨cs,h1,h2,h3⟩:=H
  exact⟨cs,h1,h2,RelL.keep cells cs 0 O (fun p hp l hl=>hβ l (by simp only[PV.labs];exact xA.2 ⟨p,hp,hl⟩)) hO h3⟩
 | .tup vs,c,O,hβ,hO,H=>by
  simp only[RelV]at H ⊢
  obtain⟨cs,h1,h2,h3⟩:=H
  exact⟨cs,h1,h2,RelL.keep vs cs 0 O (fun p hp l hl=>hβ l (by simp only[PV.labs];exact xA.2 ⟨p,hp,hl⟩)) hO h3⟩
 | .any,c,O,_,_,H=>by simp only[RelV]at H ⊢;exact H
 | .was v p,c,O,hβ,hO,H=>by
  simp only[RelV]at H ⊢
  exact⟨H.1,RelV.keep p c O (fun l hl=>hβ l (by simpa only[PV.labs]using hl)) hO H.2⟩
theorem RelL.keep {h h':Array Obj}{q:Bool}{β β':Nat->Option (Option Nat)} :
 ∀ (ps:List PV) (cs:Array Value) (i:Nat) (O:List Nat),(∀ p∈ps,∀ l∈p.labs,KeepB h h' β β' l)->(∀ b∈O,h'[b]?=h[b]?)->RelL h q β ps cs i O->RelL h' q β' ps cs i O
 | [],cs,i,O,_,_,H=>by simp only[RelL]at H ⊢;exact H
 | p::ps,cs,i,O,hβ,hO,H=>by
  simp only[RelL]at H ⊢
  obtain⟨c,O1,O2,h1,h2,h3,rfl⟩:=H
  exact⟨c,O1,O2,h1,RelV.keep p c O1 (hβ p (by simp)) (fun b hb=>hO b (by simp[hb])) h2,RelL.keep ps cs (i+1) O2 (fun q hq=>hβ q (by simp[hq])) (fun b hb=>hO b (by simp[hb])) h3,rfl⟩
end
mutual
theorem RelV.below {h:Array Obj}{β:Nat->Option (Option Nat)}:∀ (p:PV) (c:Value) (O:List Nat),RelV h β p c O->∀ b∈O,b<h.size
 | .sc v,c,O,H,b,hb=>by simp only[RelV]at H;rw[H.2]at hb;cases hb
 | .sl n cells,c,O,H,b,hb=>by
  simp only[RelV]at H
  rcases H with⟨_,_,h1,_⟩ | ⟨b',off,cap,cs,t,f,O',_,h2,h3,rfl⟩
  · rw[h1]at hb;cases hb
  · rcases aTf.1 hb with rfl | hb
    · rcases aUn b h.size with hlt | hge
      · exact hlt
      · simp[aUa hge]at h2
    · exact RelL.below cells cs off O' h3 b hb
 | .ref l s off n,c,O,H,b,hb=>by simp only[RelV]at H;rw[H.1]at hb;cases hb
 | .ptr l k,c,O,H,b,hb=>by simp only[RelV]at H;rw[H.1]at hb;cases hb
 | .iptr cells,c,O,H,b,hb=>by
  simp only[RelV]at H
  obtain⟨b',off,cs,t,f,O',_,h2,h3,rfl⟩:=H
  rcases aTf.1 hb with rfl | hb
  · rcases aUn b h.size with hlt | hge
    · exact hlt
    · simp[aUa hge]at h2
  · exact RelL.below cells cs off O' h3 b hb
 | .rw s n cells,c,O,H,b,hb=>by
  simp only[RelV]at H
  rcases H with⟨_,_,h1,_⟩ | ⟨b',cap,cs,t,O',_,h2,h3,rfl⟩
  · rw[h1]at hb;cases hb
  · rcases aTf.1 hb with rfl | hb
    · rcases aUn b h.size with hlt | hge
      · exact hlt
      · simp[aUa hge]at h2
    · exact RelL.below cells cs 0 O' h3 b hb
 | .agg cells,c,O,H,b,hb=>by
  simp only[RelV]at H
  obtain⟨cs,_,_,h3⟩:=H
  exact RelL.below cells cs 0 O h3 b hb
 | .tup vs,c,O,H,b,hb=>by
  simp only[RelV]at H
  obtain⟨cs,_,_,h3⟩:=H
  exact RelL.below vs cs 0 O h3 b hb
 | .any,c,O,H,b,hb=>by simp only[RelV]at H;rw[H]at hb;cases hb
 | .was v p,c,O,H,b,hb=>by simp only[RelV]at H;exact RelV.below p c O H.2 b hb
theorem RelL.below {h:Array Obj}{q:Bool}{β:Nat->Option (Option Nat)}:∀ (ps:List PV) (cs:Array Value) (i:Nat) (O:List Nat),RelL h q β ps cs i O->∀ b∈O,b<h.size
 | [],cs,i,O,H,b,hb=>by simp only[RelL]at H;rw[H]at hb;cases hb
 | p::ps,cs,i,O,H,b,hb=>by
  simp only[RelL]at H
  obtain⟨c,O1,O2,h1,h2,h3,rfl⟩:=H
  rcases aTj.1 hb with hb | hb
  · exact RelV.below p c O1 h2 b hb
  · exact RelL.below ps cs (i+1) O2 h3 b hb
end
theorem RelL.length {h:Array Obj}{q:Bool}{β:Nat->Option (Option Nat)}:∀ (ps:List PV) (cs:Array Value) (i:Nat) (O:List Nat),i<=cs.size->RelL h q β ps cs i O->i+ps.length<=cs.size
 | [],_,_,_,hi,_=>by simpa using hi
 | p::ps,cs,i,O,hi,H=>by
  simp only[RelL]at H
  obtain⟨c,O1,O2,h1,h2,h3,rfl⟩:=H
  have:i<cs.size:=by
   rcases aUn i cs.size with h | h
   · exact h
   · simp[aUa h]at h1
  have:=RelL.length ps cs (i+1) O2 this h3
  simp only[aTG];omega
theorem RelL.get {h:Array Obj}{q:Bool}{β:Nat->Option (Option Nat)}:∀ (ps:List PV) (cs:Array Value) (i:Nat) (O:List Nat),RelL h q β ps cs i O->∀ (k:Nat) p,ps[k]?=some p->∃ c O1,cs[i+k]?=some c/\(q=true->c.oneCell'=true)/\RelV h β p c O1/\(∀ b∈O1,b∈O)
 | [],_,_,_,_,k,p,hk=>by simp at hk
 | _::ps,cs,i,O,H,k,p,hk=>by
  simp only[RelL]at H
  obtain⟨c,O1,O2,h1,h2,h3,rfl⟩:=H
  cases k with
  | zero=>simp at hk;subst hk;exact⟨c,O1,h1.1,h1.2,h2,fun b hb=>by simp[hb]⟩
  | succ k =>
   simp at hk
   obtain⟨c',O',g1,g2,g3,g4⟩:=RelL.get ps cs (i+1) O2 h3 k p hk
   exact⟨c',O',by rw[<- g1];congr 1;omega,g2,g3,fun b hb=>by simp[g4 b hb]⟩
theorem RelL.append {h:Array Obj}{q:Bool}{β:Nat->Option (Option Nat)}:∀ (ps qs:List PV) (cs:Array Value) (i:Nat) (O:List Nat),RelL h q β (ps++qs) cs i O↔∃ O1 O2,RelL h q β ps cs i O1/\RelL h q β qs cs (i+ps.length) O2/\O=O1++O2
 | [],qs,cs,i,O=>by
  simp only[aTi,aUq,aTX,RelL]
  constructor
  · intro H;exact⟨[],O,rfl,H,rfl⟩
  · rintro⟨O1,O2,rfl,H,rfl⟩;exact H
 | p::ps,qs,cs,i,O=>by
  simp only[aTm,RelL,aTG]
  constructor
  · rintro⟨c,O1,O2,h1,h2,h3,rfl⟩
    obtain⟨O3,O4,g1,g2,rfl⟩:=(RelL.append ps qs cs (i+1) O2).1 h3
    exact⟨O1++O3,O4,⟨c,O1,O3,h1,h2,g1,rfl⟩,by rw[show i+(ps.length+1)=i+1+ps.length by omega];exact g2,by simp⟩
  · rintro⟨Oa,O4,⟨c,O1,O3,h1,h2,g1,rfl⟩,g2,rfl⟩
    refine⟨c,O1,O3++O4,h1,h2,(RelL.append ps qs cs (i+1) (O3++O4)).2 ⟨O3,O4,g1,?_,rfl⟩,by simp⟩
    rw[show i+1+ps.length=i+(ps.length+1)by omega];exact g2
theorem RelL.shift {h:Array Obj}{q:Bool}{β:Nat->Option (Option Nat)}:∀ (ps:List PV) (cs cs':Array Value) (i j:Nat) (O:List Nat),(∀ k,k<ps.length->cs'[j+k]?=cs[i+k]?)->RelL h q β ps cs i O->RelL h q β ps cs' j O
 | [],_,_,_,_,_,_,H=>by simp only[RelL]at H ⊢;exact H
 | p::ps,cs,cs',i,j,O,hk,H=>by
  simp only[RelL]at H ⊢
  obtain⟨c,O1,O2,h1,h2,h3,rfl⟩:=H
  refine⟨c,O1,O2,⟨by have:=hk 0 (by simp);simp at this;rw[this];exact h1.1,h1.2⟩,h2,RelL.shift ps cs cs' (i+1) (j+1) O2 (fun k hl=>?_) h3,rfl⟩
  have:=hk (k+1) (by simp;omega)
  rw[show j+1+k=j+(k+1)by omega,show i+1+k=i+(k+1)by omega];exact this
theorem RelL.drop {h:Array Obj}{q:Bool}{β:Nat->Option (Option Nat)}{ps:List PV}{cs:Array Value}{i:Nat}{O:List Nat}(H:RelL h q β ps cs i O)(k:Nat)(hk:k<=ps.length):∃ O2,RelL h q β (ps.drop k) cs (i+k) O2/\∃ O1,O=O1++O2:=by
 have e:ps=ps.take k++ps.drop k:=(aT6 k ps).symm
 rw[e]at H
 obtain⟨O1,O2,_,h2,rfl⟩:=(RelL.append _ _ _ _ _).1 H
 rw[aTS,aUP hk]at h2
 exact⟨O2,h2,O1,rfl⟩
theorem RelL.take {h:Array Obj}{q:Bool}{β:Nat->Option (Option Nat)}{ps:List PV}{cs:Array Value}{i:Nat}{O:List Nat}(H:RelL h q β ps cs i O)(k:Nat):∃ O1,RelL h q β (ps.take k) cs i O1/\∃ O2,O=O1++O2:=by
 have e:ps=ps.take k++ps.drop k:=(aT6 k ps).symm
 rw[e]at H
 obtain⟨O1,O2,h1,_,rfl⟩:=(RelL.append _ _ _ _ _).1 H
 exact⟨O1,h1,O2,rfl⟩
def Soft (p p':PV):Prop:=∀ (h:Array Obj) (β:Nat->Option (Option Nat)) (c:Value) (B:List Nat),RelV h β p c B->RelV h β p' c B
def SoftL (ps ps':List PV):Prop:=ps.length=ps'.length/\∀ (h:Array Obj) (q:Bool) (β:Nat->Option (Option Nat)) (cs:Array Value) (i:Nat) (B:List Nat),RelL h q β ps cs i B->RelL h q β ps' cs i B
theorem Soft.refl (p:PV):Soft p p:=fun _ _ _ _ h=>h
theorem SoftL.refl (ps:List PV):SoftL ps ps:=⟨rfl,fun _ _ _ _ _ _ h=>h⟩
theorem SoftL.nil:SoftL [] []:=SoftL.refl []
theorem SoftL.cons {p p':PV}{ps ps':List PV}(h1:Soft p p')(h2:SoftL ps ps'):SoftL (p::ps) (p'::ps'):=by
 refine⟨by simp[h2.1],fun h q β cs i B H=>?_⟩
 simp only[RelL]at H ⊢
 obtain⟨c,B1,B2,g1,g2,g3,e⟩:=H
 exact⟨c,B1,B2,g1,h1 _ _ _ _ g2,h2.2 _ _ _ _ _ _ g3,e⟩
theorem SoftL.app {a a' b b':List PV}(h1:SoftL a a')(h2:SoftL b b'):SoftL (a++b) (a'++b'):=by
 refine⟨by simp[h1.1,h2.1],fun h q β cs i B H=>?_⟩
 obtain⟨B1,B2,g1,g2,e⟩:=(RelL.append _ _ _ _ _).1 H
 exact(RelL.append _ _ _ _ _).2 ⟨B1,B2,h1.2 _ _ _ _ _ _ g1,by rw[<- h1.1];exact h2.2 _ _ _ _ _ _ g2,e⟩
theorem SoftL.flat {α:Type}{e e':α->List PV}(h:∀ y,SoftL (e y) (e' y)):∀ l:List α,SoftL (l.flatMap e) (l.flatMap e')
 | []=>SoftL.nil
 | y::r=>by rw[aTO,aTO];exact(h y).app (SoftL.flat h r)
theorem SoftL.empty {ps:List PV}(h:SoftL [] ps):ps=[]:=aTq.1 h.1.symm
theorem Soft.rw {s n:Nat}{cs cs':List PV}(h:SoftL cs cs'):Soft (.rw s n cs) (.sl n cs'):=by
 intro hp β c B H
 simp only[RelV]at H ⊢
 rcases H with⟨h1,h2,h3,h4⟩ | ⟨b,cap,cs,t,O',⟨h1,h2,_⟩,h3,h4,h5⟩
 · subst h2;exact .inl ⟨h1,h.empty,h3,none,0,h4⟩
 · exact .inr ⟨b,0,cap,cs,t,(0,0),O',⟨h1,h2⟩,h3,h.2 _ _ _ _ _ _ h4,h5⟩
theorem Soft.sl {n:Nat}{cs cs':List PV}(h:SoftL cs cs'):Soft (.sl n cs) (.sl n cs'):=by
 intro hp β c B H
 simp only[RelV]at H ⊢
 rcases H with⟨h1,h2,h3,h4⟩ | ⟨b,off,cap,cs,t,f,O',h1,h3,h4,h5⟩
 · subst h2;exact .inl ⟨h1,h.empty,h3,h4⟩
 · exact .inr ⟨b,off,cap,cs,t,f,O',h1,h3,h.2 _ _ _ _ _ _ h4,h5⟩
theorem Soft.agg {cs cs':List PV}(h:SoftL cs cs'):Soft (.agg cs) (.agg cs'):=by
 intro hp β c B H
 simp only[RelV]at H ⊢
 obtain⟨a,h1,h2,h3⟩:=H
 exact⟨a,h1,by rw[h2,h.1],h.2 _ _ _ _ _ _ h3⟩
inductive CV:PV->PV->Prop
 | refl (p:PV):CV p p
 | any (p:PV):CV p .any
 | nil:CV (.sc (.slice none 0 0)) (.sl 0 [])
def aV7:=@SoftL.cons
def aV9:=@Soft.refl
def aWb:=@Soft.agg
def aWc:=@SoftL.refl
def aWk:=@RelL.keep
def aWl:=@RelV.keep
def aWm:=@Soft.rw
def aWq:=@SoftL.nil
def aWt:=@RelV.below
def aWz:=@SoftL.flat
def aWA:=@RelL.append
def aWC:=@KeepB.dead
def aWJ:=@RelL.shift
def aWX:=@RelL.length
/- The engine, part B: environments, what they say of a run's state, and statements whose order Go leaves open. -/
structure Slot where
 v:PV
 deep:Bool:=false
structure Ob where
 cells:List PV
 deep:Bool
 box:Bool
structure Env where
 s:List (Nat×Slot)
 o:List (Nat×Option Ob)
def lk:List (Nat×Slot)->Nat->Slot
 | [],_=>⟨.any,false⟩
 | (j,v)::r,k=>bif Nat.beq j k then v else lk r k
def lo:List (Nat×Option Ob)->Nat->Option Ob
 | [],_=>none
 | (j,v)::r,k=>bif Nat.beq j k then v else lo r k
def Env.app (E e:Env):Env:=⟨e.s++E.s,e.o++E.o⟩
theorem kR (j k:Nat):Nat.beq j k=decide (j=k):=by
 by_cases h:j=k
 · subst h;simp
 · rw[aTe h]
   cases hb:Nat.beq j k with
   | false=>rfl
   | true=>exact absurd (aTN hb) h
theorem dO (j:Nat)(v:Slot)(r:List (Nat×Slot))(k:Nat):lk ((j,v)::r) k=if j=k then v else lk r k:=by
 simp only[lk,kR]
 by_cases h:j=k <;> simp[h]
theorem aI (j:Nat)(v:Option Ob)(r:List (Nat×Option Ob))(k:Nat):lo ((j,v)::r) k=if j=k then v else lo r k:=by
 simp only[lo,kR]
 by_cases h:j=k <;> simp[h]
theorem mR (a b:List (Nat×Slot))(k:Nat)(h:k∈a.map (·.1)):lk (a++b) k=lk a k:=by
 induction a with
 | nil=>cases h
 | cons x r ih =>
  obtain⟨j,v⟩:=x
  rw[aTm,dO,dO]
  by_cases hj:j=k
  · simp[hj]
  · rw[aTc hj,aTc hj]
    refine ih ?_
    simp only[aTo,aTf]at h
    rcases h with h | h
    · exact absurd h.symm hj
    · exact h
theorem pV (a b:List (Nat×Slot))(k:Nat)(h:k∉a.map (·.1)):lk (a++b) k=lk b k:=by
 induction a with
 | nil=>rfl
 | cons x r ih =>
  obtain⟨j,v⟩:=x
  simp only[aTo,aTf,not_or]at h
  rw[aTm,dO,aTc (fun e=>h.1 e.symm)]
  exact ih h.2
theorem cF (a b:List (Nat×Option Ob))(k:Nat)(h:k∈a.map (·.1)):lo (a++b) k=lo a k:=by
 induction a with
 | nil=>cases h
 | cons x r ih =>
  obtain⟨j,v⟩:=x
  rw[aTm,aI,aI]
  by_cases hj:j=k
  · simp[hj]
  · rw[aTc hj,aTc hj]
    refine ih ?_
    simp only[aTo,aTf]at h
    rcases h with h | h
    · exact absurd h.symm hj
    · exact h
theorem bH (a b:List (Nat×Option Ob))(k:Nat)(h:k∉a.map (·.1)):lo (a++b) k=lo b k:=by
 induction a with
 | nil=>rfl
 | cons x r ih =>
  obtain⟨j,v⟩:=x
  simp only[aTo,aTf,not_or]at h
  rw[aTm,aI,aTc (fun e=>h.1 e.symm)]
  exact ih h.2
inductive Own where
 | none
 | slot (k:Nat)
 | obj (l:Nat)
 | lab (l:Nat)
structure Ctx (P:Program)(N:Nat) where
 base:Nat
 ok:Nat->Prop
 io:Nat->Option Nat
 w0:World
 mine:Nat->Prop
 lent:Nat->Prop
def Ctx.nww {P:Program}{N:Nat}(Γ:Ctx P N)(b:Nat):Prop:=Γ.base<=b\/Γ.mine b
def Ctx.nw {P:Program}{N:Nat}(Γ:Ctx P N)(b:Nat):Prop:=Γ.nww b\/Γ.lent b
def fP (w:World)(b:Nat):Prop:=∃ cs t,w.heap[b]?=some (.cells cs t (0,0))
structure Kept {P:Program}{N:Nat}(Γ:Ctx P N)(w:World):Prop where
 os:w.os=Γ.w0.os
 output:w.output=Γ.w0.output
 tape:w.tape=Γ.w0.tape
 size:Γ.base<=w.heap.size
 old:∀ b,b<Γ.base->(∀ l,Γ.io l≠some b)->¬Γ.mine b->w.heap[b]?=Γ.w0.heap[b]?
 ios:∀ b,b<Γ.base->¬Γ.mine b->∀ cs t,Γ.w0.heap[b]?=some (.cells cs t (0,0))->∃ cs',w.heap[b]?=some (.cells cs' t (0,0))/\cs'.size=cs.size
def Im {P:Program}{N:Nat}(Γ:Ctx P N)(ow:Nat->Own)(w:World)(b:Nat):Prop:=b<w.heap.size/\(Γ.ok b\/Γ.nw b)/\∀ l,ow b≠.lab l
structure SimG {P:Program}{N:Nat}(Γ:Ctx P N)(ow:Nat->Own)(β:Nat->Option (Option Nat))(E:Env)(a:Act)(w:World):Prop where
 size:a.tmps.size=N
 defers:a.defers=[]
 kept:Kept Γ w
 slots:∀ k,∃ O,RelV w.heap β (lk E.s k).v (a.tmps.getD k undef) O/\(∀ b∈O,Im Γ ow w b)/\((lk E.s k).deep=true->O.Nodup/\∀ b∈O,ow b=.slot k/\fP w b)
 objs:∀ l ob,lo E.o l=some ob->∃ O,(∀ b∈O,Im Γ ow w b)/\(ob.deep=true->O.Nodup/\∀ b∈O,ow b=.obj l/\fP w b)/\
  ((β l=some none/\ob.cells=[]/\O=[])\/∃ b cs t,β l=some (some b)/\ow b=.lab l/\w.heap[b]?=some (.cells cs t (0,0))/\RelL w.heap true (if ob.box then β else dead) ob.cells cs 0 O)
 gone:∀ l,lo E.o l=none->β l=none
 own:∀ b,ow b≠.none->b<w.heap.size/\(Γ.nw b\/∃ l,ow b=.lab l/\Γ.io l=some b)
 ios:∀ l b,Γ.io l=some b->(lo E.o l).isSome=true->β l=some (some b)
 fresh:∀ l b,β l=some (some b)->Γ.io l=none->Γ.nww b
theorem SimG.congr {P:Program}{N:Nat}{Γ:Ctx P N}{ow:Nat->Own}{β:Nat->Option (Option Nat)}{E E':Env}{a:Act}{w:World}(hs:∀ k,lk E'.s k=lk E.s k)(ho:∀ l,lo E'.o l=lo E.o l)(h:SimG Γ ow β E a w):SimG Γ ow β E' a w :=
 { size:=h.size,defers:=h.defers,kept:=h.kept,slots:=fun k=>by rw[hs];exact h.slots k,objs:=fun l ob hl=>h.objs l ob (by rw[<- ho];exact hl),
   gone:=fun l hl=>h.gone l (by rw[<- ho];exact hl),own:=h.own,ios:=fun l b h1 h2=>h.ios l b h1 (by rw[<- ho];exact h2),fresh:=h.fresh }
def Sim {P:Program}{N:Nat}(Γ:Ctx P N)(E:Env)(a:Act)(w:World):Prop:=∃ ow β,SimG Γ ow β E a w
theorem Sim.congr {P:Program}{N:Nat}{Γ:Ctx P N}{E E':Env}{a:Act}{w:World}(hs:∀ k,lk E'.s k=lk E.s k)(ho:∀ l,lo E'.o l=lo E.o l):Sim Γ E a w->Sim Γ E' a w :=
 fun⟨ow,β,h⟩=>⟨ow,β,h.congr hs ho⟩
def OpT {P:Program}{N:Nat}(Γ:Ctx P N)(o:Oper)(F F':Env):Prop:=∀ a w,Sim Γ F a w->∀ (Q:Exit->Act->World->Prop),o.wp P a w (Sim Γ F') Q
def aEp {P:Program}{N:Nat}(Γ:Ctx P N)(ops:Array Oper)(i:Nat)(F F':Env):Prop:=∀ a w,Sim Γ F a w->∀ (Q:Exit->Act->World->Prop),wpOp P ops Q i (Sim Γ F') a w
mutual
def pR:PV->Bool
 | .sl _ _=>false
 | .iptr _=>false
 | .rw _ _ _=>false
 | .agg cells=>aBW cells
 | .tup vs=>aBW vs
 | .was _ p=>pR p
 | _=>true
def aBW:List PV->Bool
 | []=>true
 | p::ps=>pR p&&aBW ps
end
mutual
theorem uP {h:Array Obj}{β:Nat->Option (Option Nat)}:∀ (p:PV) {c:Value} {O:List Nat},pR p=true->RelV h β p c O->O=[]
 | .sc _,_,_,_,H=>by simp only[RelV]at H;exact H.2
 | .sl _ _,_,_,hp,_=>by simp[pR]at hp
 | .ref _ _ _ _,_,_,_,H=>by simp only[RelV]at H;exact H.1
 | .ptr _ _,_,_,_,H=>by simp only[RelV]at H;exact H.1
 | .iptr _,_,_,hp,_=>by simp[pR]at hp
 | .rw _ _ _,_,_,hp,_=>by simp[pR]at hp
 | .agg cells,_,_,hp,H=>by
  simp only[RelV]at H;simp only[pR]at hp
  obtain⟨cs,_,_,h3⟩:=H
  exact yW cells hp h3
 | .tup vs,_,_,hp,H=>by
  simp only[RelV]at H;simp only[pR]at hp
  obtain⟨cs,_,_,h3⟩:=H
  exact yW vs hp h3
 | .any,_,_,_,H=>by simp only[RelV]at H;exact H
 | .was _ p,_,_,hp,H=>by
  simp only[RelV]at H;simp only[pR]at hp
  exact uP p hp H.2
theorem yW {h:Array Obj}{q:Bool}{β:Nat->Option (Option Nat)}:∀ (ps:List PV) {cs:Array Value} {i:Nat} {O:List Nat},aBW ps=true->RelL h q β ps cs i O->O=[]
 | [],_,_,_,_,H=>by simpa only[RelL]using H
 | p::ps,_,_,_,hp,H=>by
  simp only[aBW,aTB]at hp
  simp only[RelL]at H
  obtain⟨c,O1,O2,_,h2,h3,rfl⟩:=H
  rw[uP p hp.1 h2,yW ps hp.2 h3];rfl
end
def aHq:Nat:=777777777
def yV (s:Slot):Bool:=s.deep||pR s.v
def aAv (o:Ob):Bool:=o.deep||aBW o.cells
def NoLab (F:Env)(d:Nat):Prop:=(∀ k,d∉(lk F.s k).v.labs)/\(∀ l ob,lo F.o l=some ob->ob.box=true->∀ p∈ob.cells,d∉p.labs)/\
 (d=aHq->(∀ k,yV (lk F.s k)=true)/\∀ l ob,lo F.o l=some ob->aAv ob=true)
def Local {P:Program}{N:Nat}(Γ:Ctx P N)(o:Oper)(E e:Env)(rs ro nl:List Nat):Prop :=
 ∀ F:Env,(∀ k∈rs,lk F.s k=lk E.s k)->(∀ l∈ro,lo F.o l=lo E.o l)->(∀ d∈nl,NoLab F d)->OpT Γ o F (F.app e)
def pC {P:Program}{N:Nat}(Γ:Ctx P N)(ops:Array Oper)(i:Nat)(E e:Env)(rs ro nl:List Nat):Prop :=
 ∀ F:Env,(∀ k∈rs,lk F.s k=lk E.s k)->(∀ l∈ro,lo F.o l=lo E.o l)->(∀ d∈nl,NoLab F d)->aEp Γ ops i F (F.app e)
structure Item where
 e:Env
 rs:List Nat
 ro:List Nat
 nl:List Nat
theorem aT (a b:Nat):Nat.blt a b=true↔a<b:=by simp
theorem aAN (a b:Nat):Nat.blt a b=decide (a<b):=by
 by_cases h:a<b
 · rw[aTg h];exact(aT a b).2 h
 · rw[aTe h]
   cases hb:Nat.blt a b with
   | false=>rfl
   | true=>exact absurd ((aT a b).1 hb) h
def uE (l:List Nat)(k:Nat):Bool:=match l with
 | []=>false
 | j::r=>bif Nat.beq j k then true else uE r k
theorem lJ (l:List Nat)(k:Nat):uE l k=true↔k∈l:=by
 induction l with
 | nil=>simp[uE]
 | cons j r ih =>
  simp only[uE,kR,aTf]
  by_cases h:j=k
  · simp[h]
  · simp[h,ih];intro e;exact absurd e.symm h
def zS {α:Type}(p:α->Bool):List α->Bool
 | []=>false
 | x::r=>bif p x then true else zS p r
theorem yE {α:Type}(p:α->Bool)(l:List α):zS p l=true↔∃ x∈l,p x=true:=by
 induction l with
 | nil=>simp[zS]
 | cons x r ih =>
  cases h:p x <;> simp[zS,h,ih]
def aAZ (d:Nat)(ls:List Nat):Bool:=uE ls d
def aCh (s:List (Nat×Slot))(d:Nat):Bool:=zS (fun p=>aAZ d p.2.v.labs||(Nat.beq d 777777777&&!(yV p.2))) s
def rI:List (Nat×Option Ob)->Nat->Bool
 | [],_=>false
 | (_,some ob)::r,d=>((bif ob.box then zS (fun p=>aAZ d p.labs) ob.cells else false)||(Nat.beq d 777777777&&!(aAv ob)))||rI r d
 | (_,none)::r,d=>rI r d
def sD (e:Env)(d:Nat):Bool:=aCh e.s d||rI e.o d
def wE (x y:Item):Bool :=
 zS (fun p=>uE y.rs p.1||uE (y.e.s.map (·.1)) p.1) x.e.s||zS (fun p=>uE y.ro p.1||uE (y.e.o.map (·.1)) p.1) x.e.o||zS (fun d=>sD y.e d) x.nl
theorem aDX (d:Nat)(ls:List Nat):aAZ d ls=true↔d∈ls:=lJ ls d
theorem aKA {e:Env}{d k:Nat}{v:Slot}(hm:(k,v)∈e.s)(hl:d∈v.v.labs):sD e d=true:=by
 unfold sD aCh
 rw[aT2];left
 rw[yE];exact⟨_,hm,by rw[aT2];exact .inl ((aDX _ _).2 hl)⟩
theorem aIa {e:Env}{k:Nat}{v:Slot}(hm:(k,v)∈e.s)(hl:yV v=false):sD e aHq=true:=by
 unfold sD aCh
 rw[aT2];left
 rw[yE];exact⟨_,hm,by rw[aT2];right;simp[hl,aHq]⟩
theorem aIb {e:Env}{l:Nat}{ob:Ob}(hm:(l,some ob)∈e.o)(hl:aAv ob=false):sD e aHq=true:=by
 unfold sD
 rw[aT2];right
 have:∀ o:List (Nat×Option Ob),(l,some ob)∈o->rI o aHq=true:=by
  intro o
  induction o with
  | nil=>intro h;cases h
  | cons x r ih =>
   intro h
   rcases aTf.1 h with rfl | h'
   · simp[rI,hl,aHq]
   · clear h;have h:=h';obtain⟨k,ob'⟩:=x
     cases ob' with
     | none=>simp only[rI];exact ih h
     | some ob'=>simp only[rI,aT2];exact .inr (ih h)
 exact this e.o hm
theorem aKB {e:Env}{d l:Nat}{ob:Ob}(hm:(l,some ob)∈e.o)(hb:ob.box=true){p:PV}(hp:p∈ob.cells)(hl:d∈p.labs):sD e d=true:=by
 unfold sD
 rw[aT2];right
 have:∀ o:List (Nat×Option Ob),(l,some ob)∈o->rI o d=true:=by
  intro o
  induction o with
  | nil=>intro h;cases h
  | cons x r ih =>
   intro h
   rcases aTf.1 h with rfl | h'
   · simp only[rI,hb,aVV,aT2];left;left
     rw[yE];exact⟨p,hp,(aDX _ _).2 hl⟩
   · clear h;have h:=h';obtain⟨k,ob'⟩:=x
     cases ob' with
     | none=>simp only[rI];exact ih h
     | some ob'=>simp only[rI,aT2];exact .inr (ih h)
 exact this e.o hm
theorem aIE {s:List (Nat×Slot)}{k:Nat}(h:(lk s k).v≠.any):(k,lk s k)∈s:=by
 induction s with
 | nil=>simp[lk]at h
 | cons x r ih =>
  obtain⟨j,v⟩:=x
  rw[dO]at h ⊢
  by_cases hj:j=k
  · subst hj;simp
  · rw[aTc hj]at h ⊢;exact aTT _ (ih h)
theorem aID {s:List (Nat×Option Ob)}{k:Nat}{ob:Ob}(h:lo s k=some ob):(k,some ob)∈s:=by
 induction s with
 | nil=>simp[lo]at h
 | cons x r ih =>
  obtain⟨j,v⟩:=x
  rw[aI]at h
  by_cases hj:j=k
  · subst hj;rw[aTd rfl]at h;subst h;simp
  · rw[aTc hj]at h;exact aTT _ (ih h)
theorem NoLab.of_says {E:Env}{d:Nat}(h:sD E d=false):NoLab E d:=by
 refine⟨fun k hk=>?_,fun l ob hl hb p hp hk=>?_,fun hd=>⟨fun k=>?_,fun l ob hl=>?_⟩⟩
 · have:(lk E.s k).v≠.any:=by intro e;rw[e]at hk;simp[PV.labs]at hk
   rw[aKA (aIE this) hk]at h;cases h
 · rw[aKB (aID hl) hb hp hk]at h;cases h
 · cases hq:yV (lk E.s k)with
   | true=>rfl
   | false =>
    have:(lk E.s k).v≠.any:=by intro e;simp[yV,e,pR]at hq
    rw[hd,aIa (aIE this) hq]at h;cases h
 · cases hq:aAv ob with
   | true=>rfl
   | false=>rw[hd,aIb (aID hl) hq]at h;cases h
def aBn (acc:List Nat)(o:Oper):Nat:=o.after.toList.foldl (fun s e=>if Region.binds .any e then s ||| 2 ^ e.on ||| acc.getD e.on 0 else s) 0
def aAk:List Oper->List Nat->List Nat
 | [],acc=>acc
 | o::r,acc=>aAk r (acc++[aBn acc o])
def aAi (m:Nat)(x:Item):List Item->Nat->Bool
 | [],_=>true
 | y::r,j=>(bif wE x y||wE y x then m.testBit j else true)&&aAi m x r (j+1)
def uY (masks:List Nat)(all:List Item):List Item->Nat->Bool
 | [],_=>true
 | x::r,i=>aAi (masks.getD i 0) x (all.take i) 0&&uY masks all r (i+1)
def uA:List Oper->Nat->Bool
 | [],_=>true
 | o::r,i=>(o.after.toList.all fun e=>!Region.binds .any e||Nat.blt e.on i)&&uA r (i+1)
theorem aCv {m:Nat}{x:Item}:∀ {l:List Item} {j:Nat},aAi m x l j=true->∀ k y,l[k]?=some y->(wE x y=true\/wE y x=true)->m.testBit (j+k)=true
 | [],_,_,k,y,hk,_=>by simp at hk
 | z::r,j,h,k,y,hk,hh=>by
  simp only[aAi,aTB]at h
  cases k with
  | zero =>
   simp at hk;subst hk
   have:(wE x z||wE z x)=true:=by simpa using hh
   rw[this]at h;simpa using h.1
  | succ k =>
   have:=aCv h.2 k y (by simpa using hk) hh
   rw[<- this];congr 1;omega
theorem aBH {masks:List Nat}{all:List Item}:∀ {l:List Item} {i:Nat},uY masks all l i=true->∀ k x,l[k]?=some x->∀ j y,j<i+k->all[j]?=some y->(wE x y=true\/wE y x=true)->(masks.getD (i+k) 0).testBit j=true
 | [],_,_,k,x,hk=>by simp at hk
 | z::r,i,h,k,x,hk=>by
  intro j y hj hy hh
  simp only[uY,aTB]at h
  cases k with
  | zero =>
   simp at hk;subst hk
   have:=aCv h.1 j y (by rw[aUp];simp at hj;simp[hj,hy]) hh
   simpa using this
  | succ k =>
   have:=aBH h.2 k x (by simpa using hk) j y (by omega) hy hh
   rw[<- this];congr 2;omega
theorem aDu:∀ {l:List Oper} {i:Nat},uA l i=true->∀ k o,l[k]?=some o->∀ e∈o.after,Region.binds .any e=true->e.on<i+k
 | [],_,_,k,o,hk=>by simp at hk
 | z::r,i,h,k,o,hk=>by
  intro e he hb
  simp only[uA,aTB]at h
  cases k with
  | zero =>
   simp at hk;subst hk
   have:=List.all_eq_true.1 h.1 e (by simpa using he)
   simp only[hb,aUh,aVU]at this
   exact(by simpa using(aT _ _).1 this)
  | succ k =>
   have:=aDu h.2 k o (by simpa using hk) e he hb
   omega
theorem aJE {acc:List Nat}{o:Oper}{j:Nat}(h:(aBn acc o).testBit j=true):∃ e∈o.after,Region.binds .any e=true/\(e.on=j\/(acc.getD e.on 0).testBit j=true):=by
 unfold aBn at h
 have key:∀ (l:List Edge) (s:Nat),(l.foldl (fun s e=>if Region.binds .any e then s ||| 2 ^ e.on ||| acc.getD e.on 0 else s) s).testBit j=true->s.testBit j=true\/∃ e∈l,Region.binds .any e=true/\(e.on=j\/(acc.getD e.on 0).testBit j=true):=by
  intro l
  induction l with
  | nil=>intro s hs;exact .inl hs
  | cons e r ih =>
   intro s hs
   simp only[aUG]at hs
   rcases ih _ hs with h1 | ⟨e',he',h2⟩
   · by_cases hb:Region.binds .any e=true
     · rw[aTd hb]at h1
       simp only[Nat.testBit_or,aT2]at h1
       rcases h1 with(h1 | h1) | h1
       · exact .inl h1
       · refine .inr ⟨e,by simp,hb,.inl ?_⟩
         rw[Nat.testBit_two_pow]at h1
         simpa using h1
       · exact .inr ⟨e,by simp,hb,.inr h1⟩
     · rw[aTc hb]at h1;exact .inl h1
   · exact .inr ⟨e',by simp[he'],h2⟩
 rcases key _ _ h with h | ⟨e,he,h⟩
 · simp at h
 · exact⟨e,by simpa using he,h⟩
theorem aKc:∀ (r:List Oper) (acc:List Nat),∃ t,aAk r acc=acc++t
 | [],acc=>⟨[],by simp[aAk]⟩
 | o::r,acc=>by
  obtain⟨t,ht⟩:=aKc r (acc++[aBn acc o])
  exact⟨aBn acc o::t,by simp[aAk,ht]⟩
theorem aHO:∀ (r:List Oper) (acc:List Nat) (i:Nat) (o:Oper),r[i]?=some o->(aAk r acc)[acc.length+i]?=some (aBn ((aAk r acc).take (acc.length+i)) o)
 | [],_,i,o,h=>by simp at h
 | z::r,acc,i,o,h=>by
  cases i with
  | zero =>
   simp at h;subst h
   obtain⟨t,ht⟩:=aKc r (acc++[aBn acc z])
   simp[aAk,ht]
  | succ i =>
   have:=aHO r (acc++[aBn acc z]) i o (by simpa using h)
   simp only[aTF,aTG,aUq]at this
   rw[show acc.length+1+i=acc.length+(i+1)by omega]at this
   simpa [aAk]using this
theorem aLn {ops:List Oper}{i:Nat}{o:Oper}(h:ops[i]?=some o){j:Nat}(hj:((aAk ops []).getD i 0).testBit j=true) :
 ∃ e∈o.after,Region.binds .any e=true/\(e.on=j\/((aAk ops []).getD e.on 0).testBit j=true):=by
 have h1:=aHO ops [] i o h
 simp only[aUq,aTC]at h1
 rw[aTt,h1]at hj
 obtain⟨e,he,hb,h2⟩:=aJE hj
 refine⟨e,he,hb,h2.imp id fun h3=>?_⟩
 rw[aTt,aUp]at h3
 by_cases hlt:e.on<i
 · rw[aTd hlt]at h3;rw[aTt];exact h3
 · rw[aTc hlt]at h3;simp at h3
def pt (D:Nat->Bool):List Item->Nat->Env->Env
 | [],_,E=>E
 | x::r,k,E=>pt D r (k+1) (if D k then E.app x.e else E)
theorem aHm {D D':Nat->Bool}{k:Nat}:∀ (l:List Item) (i:Nat) (E E':Env),(∀ j x,l[j]?=some x->k∈x.e.s.map (·.1)->D (i+j)=D' (i+j))->lk E.s k=lk E'.s k->lk (pt D l i E).s k=lk (pt D' l i E').s k
 | [],_,_,_,_,h=>h
 | x::r,i,E,E',hD,h=>by
  refine aHm r (i+1) _ _ (fun j y hy hk=>?_) ?_
  · have:=hD (j+1) y (by simpa using hy) hk
    rw[show i+1+j=i+(j+1)by omega];exact this
  · have h0:=hD 0 x (by simp)
    simp only[aTX]at h0
    by_cases hk:k∈x.e.s.map (·.1)
    · rw[h0 hk]
      cases D' i with
      | true=>simp only[aTz,Env.app];rw[mR _ _ _ hk,mR _ _ _ hk]
      | false=>simpa using h
    · have e1:∀ (b:Bool) (E:Env),lk (if b=true then E.app x.e else E).s k=lk E.s k:=by
       intro b E;cases b
       · simp
       · simp only[aTz,Env.app];exact pV _ _ _ hk
      rw[e1,e1];exact h
theorem aHl {D D':Nat->Bool}{k:Nat}:∀ (l:List Item) (i:Nat) (E E':Env),(∀ j x,l[j]?=some x->k∈x.e.o.map (·.1)->D (i+j)=D' (i+j))->lo E.o k=lo E'.o k->lo (pt D l i E).o k=lo (pt D' l i E').o k
 | [],_,_,_,_,h=>h
 | x::r,i,E,E',hD,h=>by
  refine aHl r (i+1) _ _ (fun j y hy hk=>?_) ?_
  · have:=hD (j+1) y (by simpa using hy) hk
    rw[show i+1+j=i+(j+1)by omega];exact this
  · have h0:=hD 0 x (by simp)
    simp only[aTX]at h0
    by_cases hk:k∈x.e.o.map (·.1)
    · rw[h0 hk]
      cases D' i with
      | true=>simp only[aTz,Env.app];rw[cF _ _ _ hk,cF _ _ _ hk]
      | false=>simpa using h
    · have e1:∀ (b:Bool) (E:Env),lo (if b=true then E.app x.e else E).o k=lo E.o k:=by
       intro b E;cases b
       · simp
       · simp only[aTz,Env.app];exact bH _ _ _ hk
      rw[e1,e1];exact h
theorem aIp {D:Nat->Bool}{k:Nat}:∀ (l:List Item) (i:Nat) (E:Env) (j:Nat) (x:Item),l[j]?=some x->D (i+j)=true->k∈x.e.s.map (·.1)->(∀ j' y,j<j'->l[j']?=some y->k∈y.e.s.map (·.1)->D (i+j')=false)->lk (pt D l i E).s k=lk x.e.s k
 | [],_,_,j,x,h,_,_,_=>by simp at h
 | z::r,i,E,j,x,h,hD,hk,hl=>by
  cases j with
  | zero =>
   simp at h;subst h
   simp only[aTX]at hD
   simp only[pt,hD,aTz]
   have:=aHm (D:=D) (D':=fun _=>false) (k:=k) r (i+1) (E.app z.e) (E.app z.e) (fun j y hy hk'=>by have:=hl (j+1) y (by omega) (by simpa using hy) hk';rw[show i+1+j=i+(j+1)by omega,this]) rfl
   rw[this]
   have e2:∀ (l:List Item) (i:Nat) (E:Env),pt (fun _=>false) l i E=E:=by
    intro l;induction l with
    | nil=>intro i E;rfl
    | cons a r ih=>intro i E;simp[pt,ih]
   rw[e2];exact mR _ _ _ hk
  | succ j =>
   simp only[pt]
   exact aIp r (i+1) _ j x (by simpa using h) (by rw[show i+1+j=i+(j+1)by omega];exact hD) hk (fun j' y hj' hy hk'=>by have:=hl (j'+1) y (by omega) (by simpa using hy) hk';rw[show i+1+j'=i+(j'+1)by omega];exact this)
theorem aFC {D:Nat->Bool}{k:Nat}:∀ (l:List Item) (i:Nat) (E:Env) (j:Nat) (x:Item),l[j]?=some x->D (i+j)=true->k∈x.e.o.map (·.1)->(∀ j' y,j<j'->l[j']?=some y->k∈y.e.o.map (·.1)->D (i+j')=false)->lo (pt D l i E).o k=lo x.e.o k
 | [],_,_,j,x,h,_,_,_=>by simp at h
 | z::r,i,E,j,x,h,hD,hk,hl=>by
  cases j with
  | zero =>
   simp at h;subst h
   simp only[aTX]at hD
   simp only[pt,hD,aTz]
   have:=aHl (D:=D) (D':=fun _=>false) (k:=k) r (i+1) (E.app z.e) (E.app z.e) (fun j y hy hk'=>by have:=hl (j+1) y (by omega) (by simpa using hy) hk';rw[show i+1+j=i+(j+1)by omega,this]) rfl
   rw[this]
   have e2:∀ (l:List Item) (i:Nat) (E:Env),pt (fun _=>false) l i E=E:=by
    intro l;induction l with
    | nil=>intro i E;rfl
    | cons a r ih=>intro i E;simp[pt,ih]
   rw[e2];exact cF _ _ _ hk
  | succ j =>
   simp only[pt]
   exact aFC r (i+1) _ j x (by simpa using h) (by rw[show i+1+j=i+(j+1)by omega];exact hD) hk (fun j' y hj' hy hk'=>by have:=hl (j'+1) y (by omega) (by simpa using hy) hk';rw[show i+1+j'=i+(j'+1)by omega];exact this)
theorem aOJ {x y:Item}{k:Nat}(hx:k∈x.e.s.map (·.1))(hy:k∈y.rs\/k∈y.e.s.map (·.1)):wE x y=true:=by
 obtain⟨p,hp,rfl⟩:=aTu.1 hx
 unfold wE
 rw[aT2,aT2];left;left
 rw[yE]
 exact⟨p,hp,by rw[aT2,lJ,lJ];exact hy⟩
theorem aOK {x y:Item}{k:Nat}(hx:k∈x.e.o.map (·.1))(hy:k∈y.ro\/k∈y.e.o.map (·.1)):wE x y=true:=by
 obtain⟨p,hp,rfl⟩:=aTu.1 hx
 unfold wE
 rw[aT2,aT2];left;right
 rw[yE]
 exact⟨p,hp,by rw[aT2,lJ,lJ];exact hy⟩
theorem aRC {x y:Item}{d:Nat}(hx:d∈x.nl)(hy:sD y.e d=true):wE x y=true:=by
 unfold wE
 rw[aT2];right
 rw[yE];exact⟨d,hx,hy⟩
theorem aN4 {D:Nat->Bool}:∀ (l:List Item) (i:Nat) (E:Env),(∀ x∈(pt D l i E).s,x∈E.s\/∃ j y,l[j]?=some y/\D (i+j)=true/\x∈y.e.s)/\(∀ x∈(pt D l i E).o,x∈E.o\/∃ j y,l[j]?=some y/\D (i+j)=true/\x∈y.e.o)
 | [],_,_=>⟨fun _ h=>.inl h,fun _ h=>.inl h⟩
 | z::r,i,E=>by
  obtain⟨h1,h2⟩:=aN4 (D:=D) r (i+1) (if D i then E.app z.e else E)
  refine⟨fun x hx=>?_,fun x hx=>?_⟩
  · rcases h1 x hx with h | ⟨j,y,hj,hD,hm⟩
    · cases hDi:D i with
      | true =>
       rw[hDi]at h
       simp only[aTz,Env.app,aTj]at h
       rcases h with h | h
       · exact .inr ⟨0,z,by simp,by simpa using hDi,h⟩
       · exact .inl h
      | false=>rw[hDi]at h;exact .inl (by simpa using h)
    · exact .inr ⟨j+1,y,by simpa using hj,by rw[show i+(j+1)=i+1+j by omega];exact hD,hm⟩
  · rcases h2 x hx with h | ⟨j,y,hj,hD,hm⟩
    · cases hDi:D i with
      | true =>
       rw[hDi]at h
       simp only[aTz,Env.app,aTj]at h
       rcases h with h | h
       · exact .inr ⟨0,z,by simp,by simpa using hDi,h⟩
       · exact .inl h
      | false=>rw[hDi]at h;exact .inl (by simpa using h)
    · exact .inr ⟨j+1,y,by simpa using hj,by rw[show i+(j+1)=i+1+j by omega];exact hD,hm⟩
theorem aJn {D:Nat->Bool}{items:List Item}{E0:Env}{d:Nat}(h0:sD E0 d=false)(h:∀ j y,items[j]?=some y->D j=true->sD y.e d=false):NoLab (pt D items 0 E0) d:=by
 obtain⟨m1,m2⟩:=aN4 (D:=D) items 0 E0
 refine⟨fun k hk=>?_,fun l ob hl hb p hp hk=>?_,fun hd=>⟨fun k=>?_,fun l ob hl=>?_⟩⟩
 · have hne:(lk (pt D items 0 E0).s k).v≠.any:=by intro e;rw[e]at hk;simp[PV.labs]at hk
   rcases m1 _ (aIE hne)with hm | ⟨j,y,hj,hD,hm⟩
   · rw[aKA hm hk]at h0;cases h0
   · have:=h j y hj (by simpa using hD);rw[aKA hm hk]at this;cases this
 · rcases m2 _ (aID hl)with hm | ⟨j,y,hj,hD,hm⟩
   · rw[aKB hm hb hp hk]at h0;cases h0
   · have:=h j y hj (by simpa using hD);rw[aKB hm hb hp hk]at this;cases this
 · cases hq:yV (lk (pt D items 0 E0).s k)with
   | true=>rfl
   | false =>
    have hne:(lk (pt D items 0 E0).s k).v≠.any:=by intro e;simp[yV,e,pR]at hq
    rcases m1 _ (aIE hne)with hm | ⟨j,y,hj,hD,hm⟩
    · rw[hd,aIa hm hq]at h0;cases h0
    · have:=h j y hj (by simpa using hD);rw[hd,aIa hm hq]at this;cases this
 · cases hq:aAv ob with
   | true=>rfl
   | false =>
    rcases m2 _ (aID hl)with hm | ⟨j,y,hj,hD,hm⟩
    · rw[hd,aIb hm hq]at h0;cases h0
    · have:=h j y hj (by simpa using hD);rw[hd,aIb hm hq]at this;cases this
def aHV {P:Program}{N:Nat}(Γ:Ctx P N)(ops:Array Oper)(items:List Item)(E0:Env):Prop :=
 ∀ i x,items[i]?=some x->pC Γ ops i (pt (fun j=>Nat.blt j i) items 0 E0) x.e x.rs x.ro x.nl/\∀ d∈x.nl,sD E0 d=false/\∀ j y,j<i->items[j]?=some y->sD y.e d=false
theorem aKF {P:Program}{N:Nat}{Γ:Ctx P N}{ops:Array Oper}{items:List Item}{E0:Env}{Q:Exit->Act->World->Prop}
 (hlen:items.length=ops.size) (hch:aHV Γ ops items E0) (hdep:uY (aAk ops.toList []) items items 0=true) (hed:uA ops.toList 0=true)
 (hQ:∀ a w,Sim Γ (pt (fun _=>true) items 0 E0) a w->Q .normal a w) :
 ∀ (fuel:Nat) (listed:Array Bool) (a:Act) (w:World),listed.size=ops.size->((List.range ops.size).filter fun j=>!listed.getD j false).length<=fuel->
  (∀ i j,listed.getD i false=true->((aAk ops.toList []).getD i 0).testBit j=true->listed.getD j false=true)->
  Sim Γ (pt (fun j=>listed.getD j false) items 0 E0) a w->wpAny P .any ops Q fuel listed a w:=by
 have hend:∀ (listed:Array Bool) (a:Act) (w:World),listed.size=ops.size->Region.ready .any ops listed=[]->Sim Γ (pt (fun j=>listed.getD j false) items 0 E0) a w->Q .normal a w:=by
  intro listed a w hsz hr hs
  have hall:∀ i,i<ops.size->listed.getD i false=true:=by
   intro i
   induction i using Nat.strongRecOn with
   | _ i ih =>
    intro hi
    cases hx:listed.getD i false with
    | true=>rfl
    | false =>
     exfalso
     have hm:i∈Region.ready .any ops listed:=by
      rw[mem_ready]
      have ho:ops[i]?=some ops[i]:=aU3 hi
      refine⟨?_,ops[i],ho,fun e he hb=>?_⟩
      · simp only[aTy]at hx ⊢
        rw[aU3 (by omega)]at hx ⊢;simpa using hx
      · have hlt:=aDu hed i ops[i] (by simp) e he hb
        rw[aTC]at hlt
        exact ih e.on hlt (by omega)
     rw[hr]at hm;cases hm
  refine hQ a w (hs.congr (fun k=>?_) (fun l=>?_))
  · refine aHm items 0 E0 E0 (fun j x hx _=>?_) rfl
    have:j<ops.size:=by rw[<- hlen];exact(aTH.1 hx).1
    simp only[aTC];rw[hall j this]
  · refine aHl items 0 E0 E0 (fun j x hx _=>?_) rfl
    have:j<ops.size:=by rw[<- hlen];exact(aTH.1 hx).1
    simp only[aTC];rw[hall j this]
 intro fuel
 induction fuel with
 | zero =>
  intro listed a w hsz hc _ hs
  have hr:Region.ready .any ops listed=[]:=by
   rw[aU7]
   intro i hi
   obtain⟨h1,o,ho,_⟩:=mem_ready.1 hi
   have hi':i<ops.size:=(aUx.1 ho).1
   have:i∈(List.range ops.size).filter fun j=>!listed.getD j false:=by
    rw[aTI]
    refine⟨aVM.2 hi',?_⟩
    simp only[aTy]at h1 ⊢
    rw[aU3 (by omega)]at h1 ⊢;simpa using h1
   rw[aTq.1 (Nat.le_zero.1 hc)]at this;cases this
  exact⟨hr,hend listed a w hsz hr hs⟩
 | succ fuel ih =>
  intro listed a w hsz hc hcl hs
  refine⟨fun hr=>hend listed a w hsz hr hs,fun i hi=>?_⟩
  obtain⟨h1,o,ho,hedges⟩:=mem_ready.1 hi
  have hi':i<ops.size:=(aUx.1 ho).1
  have hun:listed.getD i false=false:=by
   simp only[aTy]at h1 ⊢
   rw[aU3 (by omega)]at h1 ⊢;simpa using h1
  obtain⟨x,hx⟩:∃ x,items[i]?=some x:=⟨items[i]'(by omega),by simp⟩
  have hol:ops.toList[i]?=some o:=by simpa using ho
  have hanc:∀ j,((aAk ops.toList []).getD i 0).testBit j=true->listed.getD j false=true:=by
   intro j hj
   obtain⟨e,he,hb,h2⟩:=aLn hol hj
   have h3:=hedges e he hb
   rcases h2 with rfl | h2
   · exact h3
   · exact hcl _ j h3 h2
  have hpast:∀ j y,j<i->items[j]?=some y->(wE x y=true\/wE y x=true)->listed.getD j false=true:=by
   intro j y hj hy hh
   refine hanc j ?_
   have:=aBH hdep i x hx j y (by omega) hy hh
   simpa using this
  have hfut:∀ j y,i<j->items[j]?=some y->(wE x y=true\/wE y x=true)->listed.getD j false=false:=by
   intro j y hj hy hh
   cases hd:listed.getD j false with
   | false=>rfl
   | true =>
    have:=aBH hdep j y hy i x (by omega) hx hh.symm
    simp only[aTC]at this
    rw[hcl j i hd this]at hun;cases hun
  have hsel:∀ j y,items[j]?=some y->(wE x y=true\/wE y x=true)->j≠i->listed.getD j false=Nat.blt j i:=by
   intro j y hy hh hne
   rcases aUn j i with h | h
   · rw[hpast j y h hy hh,(aT _ _).2 h]
   · have hlt:i<j:=by omega
     rw[hfut j y hlt hy hh]
     cases hbb:Nat.blt j i with
     | false=>rfl
     | true=>have:=(aT _ _).1 hbb;omega
  have hself:∀ j,j=i->listed.getD j false=Nat.blt j i:=by
   rintro j rfl
   rw[hun]
   cases hbb:Nat.blt j j with
   | false=>rfl
   | true=>have:=(aT _ _).1 hbb;omega
  have hst:=(hch i x hx).1 (pt (fun j=>listed.getD j false) items 0 E0)
   (fun k hk=>aHm items 0 E0 E0 (fun j y hy hky=>by
    simp only[aTC]
    by_cases hji:j=i
    · exact hself j hji
    · exact hsel j y hy (.inr (aOJ hky (.inl hk))) hji) rfl)
   (fun l hl=>aHl items 0 E0 E0 (fun j y hy hky=>by
    simp only[aTC]
    by_cases hji:j=i
    · exact hself j hji
    · exact hsel j y hy (.inr (aOK hky (.inl hl))) hji) rfl)
   (fun d hd=>aJn ((hch i x hx).2 d hd).1 (fun j y hy hD=>by
    rcases Nat.lt_trichotomy j i with hlt | heq | hgt
    · exact((hch i x hx).2 d hd).2 j y hlt hy
    · subst heq;rw[hun]at hD;cases hD
    · cases hsy:sD y.e d with
      | false=>rfl
      | true=>rw[hfut j y hgt hy (.inl (aRC hd hsy))]at hD;cases hD))
  refine wpOp_mono (fun a' w' hs'=>?_) (hst a w hs Q)
  have hset:∀ j,(listed.setIfInBounds i true).getD j false=(bif Nat.beq i j then true else listed.getD j false):=by
   intro j
   simp only[aTy,kR]
   by_cases hij:i=j
   · subst hij;simp[hsz,hi']
   · simp[aVK hij,hij]
  refine ih (listed.setIfInBounds i true) a' w' (by simpa using hsz) ?_ ?_ ?_
  · have hlt:((List.range ops.size).filter fun j=>!(listed.setIfInBounds i true).getD j false).length<((List.range ops.size).filter fun j=>!listed.getD j false).length:=by
     have e:((List.range ops.size).filter fun j=>!(listed.setIfInBounds i true).getD j false)=((List.range ops.size).filter fun j=>!listed.getD j false).filter (fun j=>!Nat.beq i j):=by
      rw[aUv]
      congr 1;funext j;rw[hset]
      cases Nat.beq i j <;> simp
     rw[e,List.length_filter_lt_length_iff_exists]
     refine⟨i,?_,by simp⟩
     rw[aTI];exact⟨aVM.2 hi',by rw[hun];rfl⟩
    omega
  · intro i' j h2 h3
    rw[hset]at h2 ⊢
    have:listed.getD j false=true:=by
     cases hb:Nat.beq i i' with
     | true =>
      have:=aTN hb
      subst this
      exact hanc j h3
     | false=>rw[hb]at h2;exact hcl i' j h2 h3
    rw[this];cases Nat.beq i j <;> rfl
  · refine hs'.congr (fun k=>?_) (fun l=>?_)
    · by_cases hk:k∈x.e.s.map (·.1)
      · simp only[Env.app]
        rw[mR _ _ _ hk]
        refine aIp items 0 E0 i x hx ?_ hk (fun j' y hj' hy hky=>?_)
        · rw[hset];simp
        · rw[aTC,hset,hfut j' y hj' hy (.inl (aOJ hk (.inr hky)))]
          rw[kR,aTe (by omega)];rfl
      · simp only[Env.app]
        rw[pV _ _ _ hk]
        refine aHm items 0 E0 E0 (fun j y hy hky=>?_) rfl
        rw[aTC,hset,kR]
        by_cases hij:i=j
        · subst hij;rw[hx]at hy;cases hy;exact absurd hky hk
        · rw[aTe hij];rfl
    · by_cases hk:l∈x.e.o.map (·.1)
      · simp only[Env.app]
        rw[cF _ _ _ hk]
        refine aFC items 0 E0 i x hx ?_ hk (fun j' y hj' hy hky=>?_)
        · rw[hset];simp
        · rw[aTC,hset,hfut j' y hj' hy (.inl (aOK hk (.inr hky)))]
          rw[kR,aTe (by omega)];rfl
      · simp only[Env.app]
        rw[bH _ _ _ hk]
        refine aHl items 0 E0 E0 (fun j y hy hky=>?_) rfl
        rw[aTC,hset,kR]
        by_cases hij:i=j
        · subst hij;rw[hx]at hy;cases hy;exact absurd hky hk
        · rw[aTe hij];rfl
/- The engine, part C: code, calls, results. -/
open Go.RowKit (Below)
def aCM (o:Oper):List (Nat×Slot):=match o.dst with
 | some d=>[(d,⟨.sc (.tuple #[]),false⟩)]
 | none=>[]
def mM (E:Env):List Nat->Bool
 | []=>true
 | d::r=>bif sD E d then false else mM E r
theorem aCj {E:Env}:∀ {l:List Nat},mM E l=true->∀ d∈l,sD E d=false
 | [],_,d,hd=>by cases hd
 | x::r,h,d,hd=>by
  simp only[mM]at h
  cases hx:sD E x with
  | true=>rw[hx]at h;cases h
  | false =>
   rw[hx]at h
   rcases aTf.1 hd with rfl | hd
   · exact hx
   · exact aCj h d hd
theorem aNM {E e:Env}{d:Nat}(h:sD (E.app e) d=false):sD E d=false/\sD e d=false:=by
 have hs:∀ (a b:List (Nat×Slot)),aCh (a++b) d=(aCh a d||aCh b d):=by
  intro a b;unfold aCh
  induction a with
  | nil=>simp[zS]
  | cons x r ih=>simp only[aTm,zS,ih];cases(aAZ d x.2.v.labs||Nat.beq d 777777777&&!yV x.2) <;> simp
 have ho:∀ (a b:List (Nat×Option Ob)),rI (a++b) d=(rI a d||rI b d):=by
  intro a b
  induction a with
  | nil=>simp[rI]
  | cons x r ih =>
   obtain⟨k,ob⟩:=x
   cases ob <;> simp[rI,ih,Bool.or_assoc]
 simp only[sD,Env.app,hs,ho,Bool.or_eq_false_iff]at h ⊢
 exact⟨⟨h.1.2,h.2.2⟩,h.1.1,h.2.1⟩
def lkq:List (Nat×Slot)->Nat->Option Slot
 | [],_=>none
 | (j,v)::r,k=>bif Nat.beq j k then some v else lkq r k
theorem fM {s:List (Nat×Slot)}{k:Nat}{v:Slot}(h:lkq s k=some v):lk s k=v:=by
 induction s with
 | nil=>cases h
 | cons x r ih =>
  obtain⟨j,u⟩:=x
  simp only[lkq,kR]at h
  rw[dO]
  by_cases hj:j=k
  · rw[aTd hj];simp[hj]at h;exact h
  · rw[aTc hj];simp[hj]at h;exact ih h
def loq:List (Nat×Option Ob)->Nat->Option Ob
 | [],_=>none
 | (j,v)::r,k=>bif Nat.beq j k then v else loq r k
theorem bP (s:List (Nat×Option Ob))(k:Nat):loq s k=lo s k:=by
 induction s with
 | nil=>rfl
 | cons x r ih=>obtain⟨j,v⟩:=x;simp only[loq,lo,ih]
def aHI:List Oper->Nat->Option Nat
 | [],_=>none
 | o::_,0=>o.dst
 | _::r,k+1=>aHI r k
theorem aJ1:∀ (l:List Oper) (j:Nat),aHI l j=(l[j]?).bind (·.dst)
 | [],j=>by simp[aHI]
 | o::r,0=>by simp[aHI]
 | o::r,j+1=>by simp[aHI,aJ1 r j]
def aLh (S:List (Nat×Slot))(d:Nat):Option (Option Bool):=match lkq S d with
 | some ⟨.sc (.bool b),_⟩=>some (some b)
 | some ⟨.sc (.tuple _),_⟩=>some none
 | _=>none
def gw (b:Bool):Option Bool->Bool
 | some b'=>b' == b
 | none=>false
def vb:Value->Option Bool
 | .bool b=>some b
 | _=>none
def gd (N:Nat)(ops:List Oper)(S:List (Nat×Slot))(want:Bool):Option (Nat×Bool)->Option (List Nat)
 | none=>bif want then some []else none
 | some (j,b)=>match aHI ops j with
  | some d=>bif Nat.blt d N then(match aLh S d with
   | some b'=>bif gw b b' == want then some [d]else none
   | none=>none)else none
  | none=>none
theorem aNh {S:List (Nat×Slot)}{d:Nat}{b:Option Bool}(h:aLh S d=some b):∃ v dp,lk S d=⟨.sc v,dp⟩/\b=vb v:=by
 unfold aLh at h
 split at h
 · rename_i b' dp hq;cases h;exact⟨_,dp,fM hq,rfl⟩
 · rename_i c dp hq;cases h;exact⟨_,dp,fM hq,rfl⟩
 · cases h
theorem aMd {N:Nat}{ops:List Oper}{S:List (Nat×Slot)}{want:Bool}{j:Nat}{b:Bool}{gs:List Nat}(h:gd N ops S want (some (j,b))=some gs) :
 ∃ d v dp,(ops[j]?).bind (·.dst)=some d/\d<N/\lk S d=⟨.sc v,dp⟩/\gw b (vb v)=want/\gs=[d]:=by
 simp only[gd,aJ1]at h
 split at h
 · rename_i d hd
   cases hn:Nat.blt d N with
   | false=>rw[hn]at h;cases h
   | true =>
    rw[hn]at h
    simp only[aVV]at h
    split at h
    · rename_i b' hb
      obtain⟨v,dp,hk,rfl⟩:=aNh hb
      cases hx:gw b (vb v) == want with
      | false=>rw[hx]at h;cases h
      | true=>rw[hx]at h;cases h;exact⟨d,v,dp,hd,(aT _ _).1 hn,hk,by simpa using hx,rfl⟩
    · cases h
 · cases h
inductive Run {P:Program} {N:Nat} (Γ:Ctx P N) (ops:List Oper) (K:List Item->Env->Prop):List Oper->List Item->Env->Prop
 | done {acc:List Item} {E:Env}:K acc.reverse E->Run Γ ops K [] acc E
 | op {o:Oper} {rest:List Oper} {acc:List Item} {S s:List (Nat×Slot)} {O u:List (Nat×Option Ob)} {rs ro nl gs:List Nat}:Local Γ o ⟨S,O⟩ ⟨s,u⟩ rs ro nl->gd N ops S true o.guard=some gs->mM ⟨S,O⟩ nl=true->
  Run Γ ops K rest (⟨⟨s,u⟩,gs++rs,ro,nl⟩::acc) ⟨s++S,u++O⟩->Run Γ ops K (o::rest) acc ⟨S,O⟩
 | skip {o:Oper} {rest:List Oper} {acc:List Item} {S:List (Nat×Slot)} {O:List (Nat×Option Ob)} {gs:List Nat}:gd N ops S false o.guard=some gs->
  Run Γ ops K rest (⟨⟨aCM o,[]⟩,gs,[],[]⟩::acc) ⟨aCM o++S,O⟩->Run Γ ops K (o::rest) acc ⟨S,O⟩
theorem Sim.val {P:Program}{N:Nat}{Γ:Ctx P N}{F:Env}{a:Act}{w:World}{d:Nat}{v:Value}{dp:Bool}(h:Sim Γ F a w)(hd:d<N)(hk:lk F.s d=⟨.sc v,dp⟩):a.tmps[d]?=some v:=by
 obtain⟨ow,β,h⟩:=h
 obtain⟨O,h1,_⟩:=h.slots d
 rw[hk]at h1
 simp only[RelV]at h1
 have hlt:d<a.tmps.size:=by rw[h.size];exact hd
 rw[aU3 hlt]
 have:=h1.1
 simp[Array.getD,hlt]at this
 rw[this]
theorem aG5 {ops:Array Oper}{a:Act}{o:Oper}{j d:Nat}{b:Bool}{v:Value}(hg:o.guard=some (j,b))(hj:(ops.toList[j]?).bind (·.dst)=some d)(ht:a.tmps[d]?=some v):Region.wanted o (yielded ops a.tmps)=gw b (vb v):=by
 have hj':(ops[j]?).bind (·.dst)=some d:=by simpa using hj
 have:yielded ops a.tmps j=(vb v):=by
  unfold yielded
  rw[hj']
  simp[ht]
  cases v <;> rfl
 unfold Region.wanted
 rw[hg]
 simp only[this]
 cases vb v with
 | none=>cases b <;> rfl
 | some b'=>cases b <;> cases b' <;> rfl
theorem aN0 (t:Array Value)(d:Nat):(t.setIfInBounds d undef)[d]?.getD undef=undef:=by
 rw[Array.getElem?_setIfInBounds]
 simp only[aTz]
 split <;> rfl
theorem aIo {P:Program}{N:Nat}{Γ:Ctx P N}{F:Env}{a:Act}{w:World}{o:Oper}(h:Sim Γ F a w):Sim Γ (F.app ⟨aCM o,[]⟩) (a.put o.dst undef) w:=by
 obtain⟨ow,β,h⟩:=h
 unfold aCM Env.app
 cases hd:o.dst with
 | none=>exact⟨ow,β,by simpa [Act.put]using h⟩
 | some d =>
  refine⟨ow,β,{ size:=by simp[Act.put,h.size],defers:=by simp[Act.put,h.defers],kept:=h.kept,slots:=fun k=>?_,objs:=by simpa using h.objs,gone:=by simpa using h.gone,own:=h.own,ios:=by simpa using h.ios,fresh:=h.fresh }⟩
  simp only[aTm,aTi,dO,Act.put]
  by_cases hk:d=k
  · subst hk
    refine⟨[],?_,by simp,by simp⟩
    simp only[RelV,aTz,aTy]
    refine⟨?_,trivial⟩
    exact aN0 a.tmps d
  · rw[aTc hk]
    obtain⟨O,h1,h2,h3⟩:=h.slots k
    refine⟨O,?_,h2,h3⟩
    have e:(a.tmps.setIfInBounds d undef).getD k undef=a.tmps.getD k undef:=by
     simp only[aTy,aVK hk]
    rw[e];exact h1
theorem Local.at {P:Program}{N:Nat}{Γ:Ctx P N}{ops:Array Oper}{i:Nat}{o:Oper}{E e:Env}{rs ro nl:List Nat}(ho:ops[i]?=some o)(hg:o.guard=none)(h:Local Γ o E e rs ro nl):pC Γ ops i E e rs ro nl:=by
 intro F hs hl hnl a w hsim Q
 unfold wpOp
 simp only[ho]
 have:Region.wanted o (yielded ops a.tmps)=true:=by unfold Region.wanted;rw[hg]
 rw[aTd this]
 exact .inl (h F hs hl hnl a w hsim Q)
theorem Local.atG {P:Program}{N:Nat}{Γ:Ctx P N}{ops:Array Oper}{i:Nat}{o:Oper}{E e:Env}{rs ro nl:List Nat}{j d:Nat}{b dp:Bool}{v:Value}(ho:ops[i]?=some o)(hg:o.guard=some (j,b))(hj:(ops.toList[j]?).bind (·.dst)=some d)(hn:d<N)
 (hk:lk E.s d=⟨.sc v,dp⟩) (hv:gw b (vb v)=true) (h:Local Γ o E e rs ro nl):pC Γ ops i E e (d::rs) ro nl:=by
 intro F hs hl hnl a w hsim Q
 unfold wpOp
 simp only[ho]
 have hb:=hsim.val hn (by rw[hs d (by simp)];exact hk)
 rw[aTd (by rw[aG5 hg hj hb];exact hv)]
 exact .inl (h F (fun k hk=>hs k (by simp[hk])) hl hnl a w hsim Q)
theorem aPO {P:Program}{N:Nat}{Γ:Ctx P N}{ops:Array Oper}{i:Nat}{o:Oper}{E:Env}{j d:Nat}{b dp:Bool}{v:Value}(ho:ops[i]?=some o)(hg:o.guard=some (j,b))(hj:(ops.toList[j]?).bind (·.dst)=some d)(hn:d<N)
 (hk:lk E.s d=⟨.sc v,dp⟩) (hbb:gw b (vb v)=false):pC Γ ops i E ⟨aCM o,[]⟩ [d] [] []:=by
 intro F hs hl hnl a w hsim Q
 unfold wpOp
 simp only[ho]
 have hb:=hsim.val hn (by rw[hs d (by simp)];exact hk)
 rw[aTc (by rw[aG5 hg hj hb,hbb];simp)]
 exact aIo hsim
theorem aGP (l:List Item)(x:Item):∀ (i:Nat) (E:Env) (D:Nat->Bool),D (i+l.length)=true->pt D (l++[x]) i E=(pt D l i E).app x.e:=by
 induction l with
 | nil=>intro i E D h;simp at h;simp[pt,h]
 | cons y r ih=>intro i E D h;simp only[aTm,pt];exact ih _ _ _ (by rw[<- h];congr 1;simp;omega)
theorem aFD {D D':Nat->Bool}:∀ (l:List Item) (i:Nat) (E:Env),(∀ j,j<l.length->D (i+j)=D' (i+j))->pt D l i E=pt D' l i E
 | [],_,_,_=>rfl
 | x::r,i,E,h=>by
  simp only[pt]
  have h0:=h 0 (by simp)
  simp only[aTX]at h0
  rw[h0]
  exact aFD r (i+1) _ (fun j hj=>by have:=h (j+1) (by simp;omega);rw[show i+1+j=i+(j+1)by omega];exact this)
theorem aHk (l m:List Item)(i:Nat)(E:Env)(D:Nat->Bool)(h:∀ j,l.length<=j->D (i+j)=false):pt D (l++m) i E=pt D l i E:=by
 induction l generalizing i E with
 | nil =>
  simp only[aTi,pt]
  induction m generalizing i E with
  | nil=>rfl
  | cons x r ih =>
   have h0:=h 0 (by simp)
   simp only[aTX]at h0
   simp only[pt,h0,aTk,aTD]
   exact ih (i+1) E (fun j hj=>by have:=h (j+1) (by simp);rw[show i+1+j=i+(j+1)by omega];exact this)
 | cons x r ih =>
  simp only[aTm,pt]
  exact ih (i+1) _ (fun j hj=>by have:=h (j+1) (by simp;omega);rw[show i+1+j=i+(j+1)by omega];exact this)
theorem aMF {P:Program}{N:Nat}{Γ:Ctx P N}{ops:Array Oper}{K:List Item->Env->Prop}{E0:Env}{rest:List Oper}{acc:List Item}{E:Env}(h:Run Γ ops.toList K rest acc E) :
 ∀ pre,ops.toList=pre++rest->acc.length=pre.length->aHV Γ ops acc.reverse E0->E=pt (fun _=>true) acc.reverse 0 E0->∃ items,items.length=ops.size/\aHV Γ ops items E0/\K items (pt (fun _=>true) items 0 E0):=by
 have keyChain:∀ {acc:List Item} {x:Item} {E:Env},aHV Γ ops acc.reverse E0->E=pt (fun _=>true) acc.reverse 0 E0->pC Γ ops acc.length E x.e x.rs x.ro x.nl->(∀ d∈x.nl,sD E d=false)->aHV Γ ops (x::acc).reverse E0:=by
  intro acc x E hc hE hl hsay i y hy
  rw[List.reverse_cons]at hy ⊢
  rcases Nat.lt_trichotomy i acc.length with hlt | heq | hgt
  · rw[aUd (by simpa using hlt)]at hy
    rw[aHk _ _ _ _ _ (fun j hj=>by
     cases hb:Nat.blt (0+j) i with
     | false=>rfl
     | true=>have:=(aT _ _).1 hb;simp at hj;omega)]
    refine⟨(hc i y hy).1,fun d hd=>⟨((hc i y hy).2 d hd).1,fun j z hj hz=>?_⟩⟩
    rw[aUd (by simp;omega)]at hz
    exact((hc i y hy).2 d hd).2 j z hj hz
  · subst heq
    rw[aT0 (by simp)]at hy
    simp at hy;subst hy
    rw[aHk _ _ _ _ _ (fun j hj=>by
     cases hb:Nat.blt (0+j) acc.length with
     | false=>rfl
     | true=>have:=(aT _ _).1 hb;simp at hj;omega)]
    rw[aFD (D':=fun _=>true) acc.reverse 0 E0 (fun j hj=>by simp at hj;simp[hj])]
    rw[<- hE]
    refine⟨hl,fun d hd=>?_⟩
    have h1:=hsay d hd
    rw[hE]at h1
    have key:∀ (l:List Item) (i:Nat) (E:Env),sD (pt (fun _=>true) l i E) d=false->sD E d=false/\∀ y∈l,sD y.e d=false:=by
     intro l
     induction l with
     | nil=>intro i E h;exact⟨h,by simp⟩
     | cons z r ih =>
      intro i E h
      simp only[pt,aTz]at h
      obtain⟨g1,g2⟩:=ih _ _ h
      obtain⟨g3,g4⟩:=aNM g1
      refine⟨g3,fun y hy=>?_⟩
      rcases aTf.1 hy with rfl | hy
      · exact g4
      · exact g2 y hy
    obtain⟨g1,g2⟩:=key _ _ _ h1
    refine⟨g1,fun j z hj hz=>g2 z ?_⟩
    rw[aUd (by simpa using hj)]at hz
    exact List.mem_of_getElem? hz
  · rw[aVN (by simp;omega)]at hy;cases hy
 have keyE:∀ {acc:List Item} {x:Item} {E:Env},E=pt (fun _=>true) acc.reverse 0 E0->E.app x.e=pt (fun _=>true) (x::acc).reverse 0 E0:=by
  intro acc x E hE
  rw[List.reverse_cons,aGP _ _ _ _ _ rfl,hE]
 have hat:∀ {pre:List Oper} {o:Oper} {rest:List Oper} {n:Nat},ops.toList=pre++o::rest->n=pre.length->ops[n]?=some o:=by
  intro pre o rest n h1 h2
  have:ops.toList[n]?=some o:=by rw[h1,h2];simp
  simpa using this
 induction h with
 | done hK =>
  intro pre h1 h2 h3 h4
  refine⟨_,?_,h3,?_⟩
  · have:=congrArg List.length h1;simp at this;rw[List.length_reverse,h2,<- this]
  · rw[<- h4];exact hK
 | @op o rest acc S s O u rs ro nl gs hl hg hns _ ih =>
  intro pre h1 h2 h3 h4
  have hat':pC Γ ops acc.length ⟨S,O⟩ ⟨s,u⟩ (gs++rs) ro nl:=by
   cases hgd:o.guard with
   | none =>
    rw[hgd]at hg;simp only[gd,aVV]at hg;cases hg
    exact Local.at (hat h1 h2) hgd hl
   | some x =>
    obtain⟨j,b⟩:=x
    rw[hgd]at hg
    obtain⟨d,v,dp,e1,e2,e3,e4,rfl⟩:=aMd hg
    exact Local.atG (hat h1 h2) hgd e1 e2 e3 e4 hl
  exact ih (pre++[o]) (by simp[h1]) (by simp[h2]) (keyChain (x:=⟨⟨s,u⟩,gs++rs,ro,nl⟩) h3 h4 hat' (aCj hns)) (keyE (x:=⟨⟨s,u⟩,gs++rs,ro,nl⟩) h4)
 | @skip o rest acc S O gs hg _ ih =>
  intro pre h1 h2 h3 h4
  cases hgd:o.guard with
  | none=>rw[hgd]at hg;simp only[gd,cond_false]at hg;cases hg
  | some x =>
   obtain⟨j,b⟩:=x
   rw[hgd]at hg
   obtain⟨d,v,dp,e1,e2,e3,e4,rfl⟩:=aMd hg
   exact ih (pre++[o]) (by simp[h1]) (by simp[h2]) (keyChain (x:=⟨⟨aCM o,[]⟩,[d],[],[]⟩) h3 h4 (aPO (hat h1 h2) hgd e1 e2 e3 e4) (by simp)) (keyE (x:=⟨⟨aCM o,[]⟩,[d],[],[]⟩) h4)
def CodeT {P:Program}{N:Nat}(Γ:Ctx P N)(c:Code)(E:Env)(Q:Exit->Env->Prop):Prop:=∀ a w,Sim Γ E a w->c.wp P (fun x a' w'=>∃ E',Sim Γ E' a' w'/\Q x E') a w
def Ent {P:Program}{N:Nat}(Γ:Ctx P N)(E E':Env):Prop:=∀ a w,Sim Γ E a w->Sim Γ E' a w
section code
variable {P:Program}{N:Nat}{Γ:Ctx P N}{E:Env}{Q:Exit->Env->Prop}
theorem aGw {ops:Array Oper}{items:List Item}{E0:Env}{R:Exit->Act->World->Prop}(hlen:items.length=ops.size)(hc:aHV Γ ops items E0)(hR:∀ a w,Sim Γ (pt (fun _=>true) items 0 E0) a w->R .normal a w) :
 ∀ (m i:Nat) (a:Act) (w:World),i+m=ops.size->Sim Γ (pt (fun j=>Nat.blt j i) items 0 E0) a w->wpOps P ops R (List.range' i m) a w
 | 0,i,a,w,hm,hs=>by
  simp only[List.range'_zero,wpOps]
  refine hR a w ?_
  rw[aFD (D':=fun j=>Nat.blt j i) items 0 E0 (fun j hj=>by simp;omega)]
  exact hs
 | m+1,i,a,w,hm,hs=>by
  rw[List.range'_succ,wpOps_cons]
  obtain⟨x,hx⟩:∃ x,items[i]?=some x:=⟨items[i]'(by omega),by simp⟩
  refine wpOp_mono (fun a' w' hs'=>aGw hlen hc hR m (i+1) a' w' (by omega) ?_) ((hc i x hx).1 _ (fun _ _=>rfl) (fun _ _=>rfl) (fun d hd=>aJn ((hc i x hx).2 d hd).1 (fun j y hy hD=>((hc i x hx).2 d hd).2 j y ((aT _ _).1 hD) hy)) a w hs R)
  refine hs'.congr (fun k=>?_) (fun l=>?_)
  · by_cases hk:k∈x.e.s.map (·.1)
    · simp only[Env.app];rw[mR _ _ _ hk]
      refine aIp items 0 E0 i x hx (by simp) hk (fun j' y hj' _ _=>?_)
      rw[aAN];exact aTe (by omega)
    · simp only[Env.app];rw[pV _ _ _ hk]
      refine aHm items 0 E0 E0 (fun j y hy hky=>?_) rfl
      by_cases hij:j=i
      · subst hij;rw[hx]at hy;cases hy;exact absurd hky hk
      · rw[aAN,aAN];congr 1;exact propext ⟨fun h=>by omega,fun h=>by omega⟩
  · by_cases hk:l∈x.e.o.map (·.1)
    · simp only[Env.app];rw[cF _ _ _ hk]
      refine aFC items 0 E0 i x hx (by simp) hk (fun j' y hj' _ _=>?_)
      rw[aAN];exact aTe (by omega)
    · simp only[Env.app];rw[bH _ _ _ hk]
      refine aHl items 0 E0 E0 (fun j y hy hky=>?_) rfl
      by_cases hij:j=i
      · subst hij;rw[hx]at hy;cases hy;exact absurd hky hk
      · rw[aAN,aAN];congr 1;exact propext ⟨fun h=>by omega,fun h=>by omega⟩
theorem aLP (items:List Item)(i:Nat)(E0:Env)(D:Nat->Bool)(h:∀ j,D j=false):pt D items i E0=E0:=by
 induction items generalizing i E0 with
 | nil=>rfl
 | cons x r ih=>simp[pt,h,ih]
theorem CodeT.region {id:Nat}{l:List Oper}{draw:Bool}(hm:draw=true->P.follows .mixedOrders=true)
 (h:Run Γ l (fun items E'=>(draw=true->uY (aAk l []) items items 0=true/\uA l 0=true)/\Q .normal E') l [] E):CodeT Γ (.region id l.toArray draw) E Q:=by
 intro a w hs
 obtain⟨items,h1,h2,h3,h4⟩:=aMF (ops:=l.toArray) (E0:=E) h [] rfl rfl (by intro i x hx;simp at hx) (by simp[pt])
 cases draw with
 | false =>
  refine wp_region ?_
  rw[List.range_eq_range']
  refine aGw h1 h2 (fun a w hs=>⟨_,hs,h4⟩) _ 0 a w (by simp) ?_
  rw[aLP _ _ _ _ (fun j=>by rw[aAN];exact aTe (by omega))];exact hs
 | true =>
  refine wp_region_any (hm rfl) ?_
  refine aKF h1 h2 (h3 rfl).1 (h3 rfl).2 (fun a w hs=>⟨_,hs,h4⟩) _ _ _ _ (by simp) ?_ ?_ ?_
  · exact aTr (aU1 _ _) (by simp)
  · intro i j hi
    simp[aTy,Array.getElem?_replicate]at hi
    split at hi <;> simp at hi
  · rw[aLP _ _ _ _ (fun j=>by
     simp[aTy,Array.getElem?_replicate]
     split <;> simp)]
    obtain⟨ow,β,hs⟩:=hs
    exact⟨ow,β,{ size:=hs.size,defers:=hs.defers,kept:=⟨hs.kept.os,hs.kept.output,hs.kept.tape,hs.kept.size,hs.kept.old,hs.kept.ios⟩,slots:=hs.slots,objs:=hs.objs,gone:=hs.gone,own:=hs.own,ios:=hs.ios,fresh:=hs.fresh }⟩
theorem CodeT.mono {c:Code}{Q':Exit->Env->Prop}(h:CodeT Γ c E Q)(hq:∀ x E,Q x E->Q' x E):CodeT Γ c E Q' :=
 fun a w hs=>wp_mono (h a w hs) fun _ _ _ ⟨E',h1,h2⟩=>⟨E',h1,hq _ _ h2⟩
theorem CodeT.weak {c:Code}{E':Env}(he:Ent Γ E E')(h:CodeT Γ c E' Q):CodeT Γ c E Q:=fun a w hs=>h a w (he a w hs)
theorem CodeT.skip (h:Q .normal E):CodeT Γ .skip E Q:=fun _ _ hs=>wp_skip ⟨E,hs,h⟩
theorem CodeT.exit {id:Nat}(h:Q (.exit id) E):CodeT Γ (.exit id) E Q:=fun _ _ hs=>wp_exit ⟨E,hs,h⟩
theorem CodeT.ret (h:Q .ret E):CodeT Γ .ret E Q:=fun _ _ hs=>wp_ret ⟨E,hs,h⟩
def vC (K:Env->Prop)(Q:Exit->Env->Prop):Exit->Env->Prop
 | .normal,E=>K E
 | x,E=>Q x E
theorem CodeT.seq {x y:Code}(h:CodeT Γ x E (vC (fun E'=>CodeT Γ y E' Q) Q)):CodeT Γ (.seq x y) E Q:=by
 intro a w hs
 refine wp_seq (wp_mono (h a w hs) fun e a' w' ⟨E',h1,h2⟩=>?_)
 cases e with
 | normal=>exact h2 a' w' h1
 | _=>exact⟨E',h1,h2⟩
def lS (id:Nat)(Q:Exit->Env->Prop):Exit->Env->Prop
 | .exit id',E=>bif Nat.beq id' id then Q .normal E else Q (.exit id') E
 | x,E=>Q x E
theorem CodeT.block {id:Nat}{c:Code}(h:CodeT Γ c E (lS id Q)):CodeT Γ (.block id c) E Q:=by
 intro a w hs
 refine wp_block (wp_mono (h a w hs) fun e a' w' ⟨E',h1,h2⟩=>?_)
 cases e with
 | exit id' =>
  simp only[Exit.inBlock]
  simp only[lS,kR]at h2
  by_cases hid:id'=id
  · rw[aTd hid];simp[hid]at h2;exact⟨E',h1,h2⟩
  · rw[aTc hid];simp[hid]at h2;exact⟨E',h1,h2⟩
 | _=>exact⟨E',h1,h2⟩
theorem Sim.eval_bool {a:Act}{w:World}{t:Nat}{b dp:Bool}(hs:Sim Γ E a w)(hk:lk E.s t=⟨.sc (.bool b),dp⟩):a.eval (.tmp t)=.bool b:=by
 obtain⟨ow,β,hs⟩:=hs
 obtain⟨O,h1,_⟩:=hs.slots t
 rw[hk]at h1
 simp only[RelV]at h1
 exact h1.1
theorem CodeT.cond {t:Nat}{x y:Code}{b dp:Bool}(hk:lk E.s t=⟨.sc (.bool b),dp⟩)(h1:b=true->CodeT Γ x E Q)(h2:b=false->CodeT Γ y E Q):CodeT Γ (.cond (.tmp t) x y) E Q:=by
 intro a w hs
 exact wp_cond_split (hs.eval_bool hk) (fun h=>h1 h a w hs) (fun h=>h2 h a w hs)
theorem CodeT.condF {t:Nat}{x y:Code}{dp:Bool}(hk:lk E.s t=⟨.sc (.bool false),dp⟩)(h:CodeT Γ y E Q):CodeT Γ (.cond (.tmp t) x y) E Q:=.cond hk (fun h=>by cases h) (fun _=>h)
def aCx {P:Program}{N:Nat}(Γ:Ctx P N)(I:Nat->Env->Prop)(n:Nat)(Q:Exit->Env->Prop):Exit->Env->Prop
 | .normal,E=>∃ m E',m<n/\Ent Γ E E'/\I m E'
 | x,E=>Q x E
theorem CodeT.loop {c:Code}(I:Nat->Env->Prop)(n:Nat)(E0:Env)(he:Ent Γ E E0)(h0:I n E0)(hr:∀ m E,I m E->CodeT Γ c E (aCx Γ I m Q)):CodeT Γ (.loop c) E Q:=by
 intro a w hs
 have hs:=he a w hs
 intro b k cs
 have main:∀ n E a w,I n E->Sim Γ E a w->∃ e a' w',(∃ E',Sim Γ E' a' w'/\Q e E')/\Arrives P (lone (b.at a (.code c::.inLoop c::k)) cs w) b k cs e a' w':=by
  intro n
  induction n using Nat.strongRecOn with
  | _ n ih =>
   intro E a w hI hs
   obtain⟨e,a₁,w₁,⟨E',hs',hq⟩,harr⟩:=hr n E hI a w hs b (.inLoop c::k) cs
   cases e with
   | normal =>
    obtain⟨m,E'',hlt,hent,hI'⟩:=hq
    obtain⟨e₂,a₂,w₂,hq₂,harr₂⟩:=ih m hlt E'' a₁ w₁ hI' (hent _ _ hs')
    exact⟨e₂,a₂,w₂,hq₂,.of_steps (Steps.trans harr (.one step_inLoop)) harr₂⟩
   | exit id=>exact⟨_,a₁,w₁,⟨E',hs',hq⟩,.pass (x:=.inLoop c) rfl (fun _ _=>.inl (by simp)) harr⟩
   | goto l=>exact⟨_,a₁,w₁,⟨E',hs',hq⟩,.pass (x:=.inLoop c) rfl (fun _ _=>.inl (by simp)) harr⟩
   | ret=>exact⟨_,a₁,w₁,⟨E',hs',hq⟩,.pass (x:=.inLoop c) rfl (fun _ _=>.inl (by simp)) harr⟩
   | panic ch=>exact⟨_,a₁,w₁,⟨E',hs',hq⟩,.pass (x:=.inLoop c) rfl (fun _ _=>.inl (by simp)) harr⟩
   | outgrown=>exact⟨_,a₁,w₁,⟨E',hs',hq⟩,.pass (x:=.inLoop c) rfl (fun _ _=>.inl (by simp)) harr⟩
 obtain⟨e,a',w',hq,harr⟩:=main n E0 a w h0 hs
 exact⟨e,a',w',hq,.of_steps (.one step_loop) harr⟩
end code
def aWa:=@Run.op
def aWf:=@CodeT.weak
def aWL:=@CodeT.block
def aWQ:=@CodeT.skip
/- The engine, part D: how a state changes: a slot is written, a world grows, a block is laid, a cell of an own block is stored. -/
open Go.RowKit (Below)
section
variable {P:Program}{N:Nat}{Γ:Ctx P N}{ow:Nat->Own}{β:Nat->Option (Option Nat)}{E:Env}{a:Act}{w:World}
theorem bK {o:Oper}{F F':Env}(h:∀ a w,Sim Γ F a w->∃ c w',(execOp a.eval o).run P w=.ok (.value c) w'/\Sim Γ F' (a.put o.dst c) w'):OpT Γ o F F':=by
 intro a w hs Q
 obtain⟨c,w',h1,h2⟩:=h a w hs
 unfold Oper.wp
 rw[h1]
 exact h2
theorem aEi {o:Oper}{F F':Env}(h:∀ a w,Sim Γ F a w->∃ w',(execOp a.eval o).run P w=.ok .skip w'/\Sim Γ F' (a.put o.dst undef) w'):OpT Γ o F F':=by
 intro a w hs Q
 obtain⟨w',h1,h2⟩:=h a w hs
 unfold Oper.wp
 rw[h1]
 exact h2
theorem SimG.block_lt (h:SimG Γ ow β E a w){l b:Nat}(hl:β l=some (some b)):b<w.heap.size:=by
 cases ho:lo E.o l with
 | none=>rw[h.gone l ho]at hl;cases hl
 | some ob =>
  obtain⟨O,_,_,h1⟩:=h.objs l ob ho
  rcases h1 with⟨h1,_⟩ | ⟨b',cs,t,h1,_,h3,_⟩
  · rw[h1]at hl;cases hl
  · rw[h1]at hl;cases hl
    rcases aUn b w.heap.size with h | h
    · exact h
    · simp[aUa h]at h3
theorem SimG.grow {w':World}(h:SimG Γ ow β E a w)(hb:Below w.heap.size w w'):SimG Γ ow β E a w':=by
 have hβ:∀ l,KeepB w.heap w'.heap β β l:=by
  intro l ob hl
  refine⟨hl,fun b hob cs t hc=>⟨cs,?_,rfl⟩⟩
  subst hob
  rw[hb.block b (h.block_lt hl)];exact hc
 have hIm:∀ b,Im Γ ow w b->Im Γ ow w' b:=fun b ⟨h1,h2,h3⟩=>⟨aTp h1 hb.size,h2,h3⟩
 have hFree:∀ b,b<w.heap.size->fP w b->fP w' b:=fun b hlt ⟨cs,t,hc⟩=>⟨cs,t,by rw[hb.block b hlt];exact hc⟩
 refine { size:=h.size,defers:=h.defers,kept:=?_,slots:=fun k=>?_,objs:=fun l ob hl=>?_,gone:=h.gone,own:=fun b hb'=>?_,ios:=h.ios,fresh:=h.fresh }
 · exact⟨hb.os.trans h.kept.os,hb.output.trans h.kept.output,hb.tape.trans h.kept.tape,aTr h.kept.size hb.size,
    fun b h1 h2 hm=>(hb.block b (aTp h1 h.kept.size)).trans (h.kept.old b h1 h2 hm),
    fun b h1 hm cs t h2=>by
     obtain⟨cs',h3,h4⟩:=h.kept.ios b h1 hm cs t h2
     exact⟨cs',by rw[hb.block b (aTp h1 h.kept.size)];exact h3,h4⟩⟩
 · obtain⟨O,h1,h2,h3⟩:=h.slots k
   refine⟨O,aWl _ _ _ (fun l _=>hβ l) (fun b hbO=>hb.block b (h2 b hbO).1) h1,fun b hbO=>hIm b (h2 b hbO),fun hd=>⟨(h3 hd).1,fun b hbO=>⟨((h3 hd).2 b hbO).1,hFree b (h2 b hbO).1 ((h3 hd).2 b hbO).2⟩⟩⟩
 · obtain⟨O,h1,h2,h3⟩:=h.objs l ob hl
   refine⟨O,fun b hbO=>hIm b (h1 b hbO),fun hd=>⟨(h2 hd).1,fun b hbO=>⟨((h2 hd).2 b hbO).1,hFree b (h1 b hbO).1 ((h2 hd).2 b hbO).2⟩⟩,?_⟩
   rcases h3 with h3 | ⟨b,cs,t,g1,g2,g3,g4⟩
   · exact .inl h3
   · refine .inr ⟨b,cs,t,g1,g2,by rw[hb.block b (h.block_lt g1)];exact g3,?_⟩
     cases hbx:ob.box with
     | true=>rw[hbx]at g4;exact aWk _ _ _ _ (fun _ _ l _=>hβ l) (fun b hbO=>hb.block b (h1 b hbO).1) g4
     | false=>rw[hbx]at g4;exact aWk _ _ _ _ (fun _ _ l _=>aWC _ _ l) (fun b hbO=>hb.block b (h1 b hbO).1) g4
 · obtain⟨h1,h2⟩:=h.own b hb'
   exact⟨aTp h1 hb.size,h2⟩
theorem mB {tmps:Array Value}{d:Nat}{c:Value}(h:d<tmps.size):(tmps.setIfInBounds d c).getD d undef=c:=by
 simp[aTy,h]
theorem sU {tmps:Array Value}{d k:Nat}{c:Value}(h:d≠k):(tmps.setIfInBounds d c).getD k undef=tmps.getD k undef:=by
 simp only[aTy,aVK h]
theorem SimG.put (h:SimG Γ ow β E a w){d:Nat}(hd:d<N){v:PV}{c:Value}{O:List Nat}(hv:RelV w.heap β v c O)(hO:∀ b∈O,Im Γ ow w b) :
 SimG Γ ow β (E.app ⟨[(d,⟨v,false⟩)],[]⟩) (a.put (some d) c) w:=by
 refine { size:=by simp[Act.put,h.size],defers:=by simp[Act.put,h.defers],kept:=h.kept,slots:=fun k=>?_,objs:=by simpa [Env.app]using h.objs,gone:=by simpa [Env.app]using h.gone,own:=h.own,ios:=by simpa [Env.app]using h.ios,fresh:=h.fresh }
 simp only[Env.app,aTm,aTi,dO,Act.put]
 by_cases hk:d=k
 · subst hk
   rw[aTd rfl,mB (by rw[h.size];exact hd)]
   exact⟨O,hv,hO,by simp⟩
 · rw[aTc hk,sU hk];exact h.slots k
theorem SimG.putDeep (h:SimG Γ ow β E a w){d:Nat}(hd:d<N){v:PV}{c:Value}{O:List Nat}(hv:RelV w.heap β v c O)(hO:∀ b∈O,Im Γ ow w b)(hn:O.Nodup)(hf:∀ b∈O,fP w b/\(Γ.nw b))
 (hfresh:∀ b∈O,ow b=.none\/ow b=.slot d) :
 SimG Γ (fun b=>if b∈O then .slot d else ow b) β (E.app ⟨[(d,⟨v,true⟩)],[]⟩) (a.put (some d) c) w:=by
 have hIm:∀ b,Im Γ ow w b->Im Γ (fun b=>if b∈O then Own.slot d else ow b) w b:=by
  intro b ⟨h1,h2,h3⟩
  refine⟨h1,h2,fun l=>?_⟩
  by_cases hb:b∈O
  · simp[hb]
  · simp[hb,h3 l]
 refine { size:=by simp[Act.put,h.size],defers:=by simp[Act.put,h.defers],kept:=h.kept,slots:=fun k=>?_,objs:=fun l ob hl=>?_,gone:=by simpa [Env.app]using h.gone,own:=fun b hb=>?_,ios:=by simpa [Env.app]using h.ios,fresh:=h.fresh }
 · simp only[Env.app,aTm,aTi,dO,Act.put]
   by_cases hk:d=k
   · subst hk
     rw[aTd rfl,mB (by rw[h.size];exact hd)]
     exact⟨O,hv,fun b hb=>hIm b (hO b hb),fun _=>⟨hn,fun b hb=>⟨by simp[hb],(hf b hb).1⟩⟩⟩
   · rw[aTc hk,sU hk]
     obtain⟨O',g1,g2,g3⟩:=h.slots k
     refine⟨O',g1,fun b hb=>hIm b (g2 b hb),fun hdp=>⟨(g3 hdp).1,fun b hb=>⟨?_,((g3 hdp).2 b hb).2⟩⟩⟩
     have:=((g3 hdp).2 b hb).1
     by_cases hbO:b∈O
     · rcases hfresh b hbO with e | e <;> rw[e]at this <;> simp at this
       exact absurd this hk
     · simp[hbO,this]
 · simp only[Env.app,aTi]at hl
   obtain⟨O',g1,g2,g3⟩:=h.objs l ob hl
   refine⟨O',fun b hb=>hIm b (g1 b hb),fun hdp=>⟨(g2 hdp).1,fun b hb=>⟨?_,((g2 hdp).2 b hb).2⟩⟩,?_⟩
   · have:=((g2 hdp).2 b hb).1
     by_cases hbO:b∈O
     · rcases hfresh b hbO with e | e <;> rw[e]at this <;> simp at this
     · simp[hbO,this]
   · rcases g3 with g3 | ⟨b,cs,t,e1,e2,e3,e4⟩
     · exact .inl g3
     · refine .inr ⟨b,cs,t,e1,?_,e3,e4⟩
       by_cases hbO:b∈O
       · rcases hfresh b hbO with e | e <;> rw[e]at e2 <;> simp at e2
       · simp[hbO,e2]
 · by_cases hbO:b∈O
   · exact⟨(hO b hbO).1,.inl (hf b hbO).2⟩
   · simp only[hbO,aTD]at hb ⊢;exact h.own b hb
theorem SimG.take (h:SimG Γ ow β E a w){d s:Nat}(hd:d<N)(hne:d≠s){v:PV}{dp:Bool}(hs:lk E.s s=⟨v,dp⟩) :
 ∃ ow',SimG Γ ow' β (E.app ⟨[(d,⟨v,dp⟩),(s,⟨.any,false⟩)],[]⟩) (a.put (some d) (a.tmps.getD s undef)) w:=by
 obtain⟨O,hv,hO,hdp⟩:=h.slots s
 rw[hs]at hv hdp
 let ow':Nat->Own:=fun b=>if b∈O/\dp=true then .slot d else ow b
 have hIm:∀ b,Im Γ ow w b->Im Γ ow' w b:=by
  intro b ⟨h1,h2,h3⟩
  refine⟨h1,h2,fun l=>?_⟩
  show(if _ then _ else _)≠_
  split
  · simp
  · exact h3 l
 refine⟨ow',{ size:=by simp[Act.put,h.size],defers:=by simp[Act.put,h.defers],kept:=h.kept,slots:=fun k=>?_,objs:=fun l ob hl=>?_,gone:=by simpa [Env.app]using h.gone,own:=fun b hb=>?_,ios:=by simpa [Env.app]using h.ios,fresh:=h.fresh }⟩
 · simp only[Env.app,aTm,aTi,dO,Act.put]
   by_cases hk:d=k
   · subst hk
     rw[aTd rfl,mB (by rw[h.size];exact hd)]
     exact⟨O,hv,fun b hb=>hIm b (hO b hb),fun hx=>⟨(hdp hx).1,fun b hb=>⟨by show(if _ then _ else _)=_;rw[aTd ⟨hb,hx⟩],((hdp hx).2 b hb).2⟩⟩⟩
   · rw[aTc hk,sU hk]
     by_cases hks:s=k
     · rw[aTd hks];exact⟨[],by simp[RelV],by simp,by simp⟩
     · rw[aTc hks]
       obtain⟨O',g1,g2,g3⟩:=h.slots k
       refine⟨O',g1,fun b hb=>hIm b (g2 b hb),fun hx=>⟨(g3 hx).1,fun b hb=>⟨?_,((g3 hx).2 b hb).2⟩⟩⟩
       have e:=((g3 hx).2 b hb).1
       show(if _ then _ else _)=_
       split
       · rename_i hc
         have:=((hdp hc.2).2 b hc.1).1
         rw[e]at this;simp at this;exact absurd this.symm hks
       · exact e
 · simp only[Env.app,aTi]at hl
   obtain⟨O',g1,g2,g3⟩:=h.objs l ob hl
   refine⟨O',fun b hb=>hIm b (g1 b hb),fun hx=>⟨(g2 hx).1,fun b hb=>⟨?_,((g2 hx).2 b hb).2⟩⟩,?_⟩
   · have e:=((g2 hx).2 b hb).1
     show(if _ then _ else _)=_
     split
     · rename_i hc
       have:=((hdp hc.2).2 b hc.1).1
       rw[e]at this;simp at this
     · exact e
   · rcases g3 with g3 | ⟨b,cs,t,e1,e2,e3,e4⟩
     · exact .inl g3
     · refine .inr ⟨b,cs,t,e1,?_,e3,e4⟩
       show(if _ then _ else _)=_
       split
       · rename_i hc
         have:=((hdp hc.2).2 b hc.1).1
         rw[e2]at this;simp at this
       · exact e2
 · have:ow b≠.none:=by
    intro e
    apply hb
    show(if _ then _ else _)=_
    split
    · rename_i hc
      have:=((hdp hc.2).2 b hc.1).1
      rw[e]at this;simp at this
    · exact e
   obtain⟨g1,g2⟩:=h.own b this
   refine⟨g1,g2.imp id fun⟨l,g3,g4⟩=>⟨l,?_,g4⟩⟩
   show(if _ then _ else _)=_
   split
   · rename_i hc
     have:=((hdp hc.2).2 b hc.1).1
     rw[g3]at this;simp at this
   · exact g3
end
/- The engine, part E: own blocks: one is laid (or an elder one is taken over), one is written. -/
open Go.RowKit (Below)
theorem aBY (ks:List Nat)(E:List (Nat×Slot))(k:Nat):lk (ks.map (fun j=>(j,(⟨.any,false⟩:Slot)))++E) k=if k∈ks then⟨.any,false⟩else lk E k:=by
 induction ks with
 | nil=>simp
 | cons j r ih =>
  simp only[aTo,aTm,dO,ih,aTf]
  by_cases h:j=k
  · subst h;simp
  · rw[aTc h]
    by_cases h2:k∈r
    · simp[h2]
    · have:¬k=j:=fun e=>h e.symm
      simp[h2,this]
theorem uR (ls:List Nat)(E:List (Nat×Option Ob))(k:Nat):lo (ls.map (fun j=>(j,(none:Option Ob)))++E) k=if k∈ls then none else lo E k:=by
 induction ls with
 | nil=>simp
 | cons j r ih =>
  simp only[aTo,aTm,aI,ih,aTf]
  by_cases h:j=k
  · subst h;simp
  · rw[aTc h]
    by_cases h2:k∈r
    · simp[h2]
    · have:¬k=j:=fun e=>h e.symm
      simp[h2,this]
section
variable {P:Program}{N:Nat}{Γ:Ctx P N}{ow:Nat->Own}{β:Nat->Option (Option Nat)}{E:Env}{a:Act}{w:World}
structure Same (w w':World):Prop where
 os:w'.os=w.os
 output:w'.output=w.output
 tape:w'.tape=w.tape
 size:w.heap.size<=w'.heap.size
theorem SimG.lab_ne (h:SimG Γ ow β E a w){m b:Nat}(hm:β m=some (some b)):ow b=.lab m:=by
 cases ho:lo E.o m with
 | none=>rw[h.gone m ho]at hm;cases hm
 | some ob =>
  obtain⟨O,_,_,h1⟩:=h.objs m ob ho
  rcases h1 with⟨h1,_⟩ | ⟨b',cs,t,h1,h2,_,_⟩
  · rw[h1]at hm;cases hm
  · rw[h1]at hm;cases hm;exact h2
theorem aQM {b b0:Nat}(h0:Γ.nww b0)(h1:b<Γ.base)(h2:¬Γ.mine b):b≠b0:=by
 rintro rfl
 rcases h0 with g | g
 · omega
 · exact h2 g
theorem SimG.lay (h:SimG Γ ow β E a w){w':World}(hw:Same w w'){b0:Nat}(hlt:b0<w'.heap.size)(hother:∀ b,b<w.heap.size->b≠b0->w'.heap[b]?=w.heap[b]?)
 {cs:Array Value} {t:TypeId} (hrow:w'.heap[b0]?=some (.cells cs t (0,0))) {l:Nat} (hl:NoLab E l) (hio:Γ.io l=none) (ks ls:List Nat)
 (horig:w.heap.size<=b0\/∃ m∈ls,β m=some (some b0)) (hbase:Γ.nww b0) (ob:Ob) {O:List Nat}
 (hrel:RelL w'.heap true (if ob.box then β else dead) ob.cells cs 0 O) (hlab:ob.box=true->∀ p∈ob.cells,l∉p.labs) (hO:∀ b∈O,Im Γ ow w b)
 (hdeep:ob.deep=true->O.Nodup/\∀ b∈O,fP w b/\Γ.nw b/\((∃ k∈ks,ow b=.slot k)\/(∃ m∈ls,ow b=.obj m)\/ow b=.none)) :
 ∃ ow',SimG Γ ow' (fun m=>if m=l then some (some b0)else if m∈ls then none else β m) (E.app ⟨ks.map (fun j=>(j,⟨.any,false⟩)),(l,some ob)::ls.map (fun j=>(j,none))⟩) a w':=by
 let β':Nat->Option (Option Nat):=fun m=>if m=l then some (some b0)else if m∈ls then none else β m
 let ow':Nat->Own:=fun b=>if b=b0 then .lab l else if b∈O/\ob.deep=true then .obj l else ow b
 have hImne:∀ b,Im Γ ow w b->b≠b0:=by
  rintro b ⟨h1,_,h3⟩ rfl
  rcases horig with h | ⟨m,_,hm⟩
  · omega
  · exact h3 m (h.lab_ne hm)
 have hIm:∀ b,Im Γ ow w b->Im Γ ow' w' b:=by
  intro b hb
  refine⟨aTp hb.1 hw.size,hb.2.1,fun m=>?_⟩
  show(if _ then _ else _)≠_
  rw[aTc (hImne b hb)]
  split
  · simp
  · exact hb.2.2 m
 have hFree:∀ b,Im Γ ow w b->fP w b->fP w' b:=fun b hb ⟨c,t,hc⟩=>⟨c,t,by rw[hother b hb.1 (hImne b hb)];exact hc⟩
 have hβb:∀ m b,β m=some (some b)->m∉ls->b≠b0:=by
  rintro m b hm hnl rfl
  rcases horig with h1 | ⟨m',hm',he⟩
  · have:=h.block_lt hm;omega
  · have e1:=h.lab_ne hm
    have e2:=h.lab_ne he
    rw[e1]at e2;simp at e2;subst e2;exact hnl hm'
 have hkeep:∀ m,m≠l->KeepB w.heap w'.heap β β' m:=by
  intro m hne o ho
  have ho':(if m∈ls then none else β m)=some o:=by
   have:β' m=(if m∈ls then none else β m):=by show(if _ then _ else _)=_;rw[aTc hne]
   rw[<- this];exact ho
  by_cases hm:m∈ls
  · rw[aTd hm]at ho';cases ho'
  · rw[aTc hm]at ho'
    refine⟨ho',fun b hob c t hc=>⟨c,?_,rfl⟩⟩
    subst hob
    rw[hother b (h.block_lt ho') (hβb m b ho' hm)];exact hc
 have hheap:∀ b,Im Γ ow w b->w'.heap[b]?=w.heap[b]?:=fun b hb=>hother b hb.1 (hImne b hb)
 refine⟨ow',{ size:=h.size,defers:=h.defers,kept:=?_,slots:=fun k=>?_,objs:=fun m ob' hm=>?_,gone:=fun m hm=>?_,own:=fun b hb=>?_,ios:=fun m b hm hs=>?_,fresh:=fun m b hm hiom=>?_ }⟩
 · refine⟨hw.os.trans h.kept.os,hw.output.trans h.kept.output,hw.tape.trans h.kept.tape,aTr h.kept.size hw.size,fun b h1 h2 hmi=>?_,fun b h1 hmi c t h2=>?_⟩
   · exact(hother b (aTp h1 h.kept.size) (aQM hbase h1 hmi)).trans (h.kept.old b h1 h2 hmi)
   · obtain⟨c',h3,h4⟩:=h.kept.ios b h1 hmi c t h2
     exact⟨c',by rw[hother b (aTp h1 h.kept.size) (aQM hbase h1 hmi)];exact h3,h4⟩
 · simp only[Env.app,aBY]
   by_cases hk:k∈ks
   · rw[aTd hk];exact⟨[],by simp[RelV],by simp,by simp⟩
   · rw[aTc hk]
     obtain⟨O',g1,g2,g3⟩:=h.slots k
     refine⟨O',aWl _ _ _ (fun m hm=>hkeep m (fun e=>hl.1 k (e▸hm))) (fun b hb=>hheap b (g2 b hb)) g1,fun b hb=>hIm b (g2 b hb),fun hd=>⟨(g3 hd).1,fun b hb=>⟨?_,hFree b (g2 b hb) ((g3 hd).2 b hb).2⟩⟩⟩
     have e:=((g3 hd).2 b hb).1
     show(if _ then _ else _)=_
     rw[aTc (hImne b (g2 b hb))]
     split
     · rename_i hc
       rcases((hdeep hc.2).2 b hc.1).2.2 with⟨k',hk',e'⟩ | ⟨m,_,e'⟩ | e' <;> rw[e]at e' <;> simp at e'
       subst e';exact absurd hk' hk
     · exact e
 · simp only[Env.app,aTm,aI,uR]at hm
   by_cases hml:l=m
   · subst hml
     rw[aTd rfl]at hm;cases hm
     refine⟨O,fun b hb=>hIm b (hO b hb),fun hd=>⟨(hdeep hd).1,fun b hb=>⟨?_,hFree b (hO b hb) ((hdeep hd).2 b hb).1⟩⟩,.inr ⟨b0,cs,t,?_,?_,hrow,?_⟩⟩
     · show(if _ then _ else _)=_
       rw[aTc (hImne b (hO b hb)),aTd ⟨hb,hd⟩]
     · show(if _ then _ else _)=_;rw[aTd rfl]
     · show(if _ then _ else _)=_;rw[aTd rfl]
     · cases hbx:ob.box with
       | false=>rw[hbx]at hrel;simpa using hrel
       | true =>
        rw[hbx]at hrel
        simp only[aTz]at hrel ⊢
        refine aWk _ _ _ _ (fun p hp m hm o ho=>?_) (fun _ _=>rfl) hrel
        have hne:m≠l:=fun e=>hlab hbx p hp (e▸hm)
        obtain⟨g1,g2⟩:=hkeep m hne o ho
        refine⟨g1,fun b hob c t hc=>?_⟩
        exact⟨c,hc,rfl⟩
   · rw[aTc hml]at hm
     by_cases hmls:m∈ls
     · rw[aTd hmls]at hm;cases hm
     · rw[aTc hmls]at hm
       obtain⟨O',g1,g2,g3⟩:=h.objs m ob' hm
       have eβ:β' m=β m:=by show(if _ then _ else _)=_;rw[aTc (fun e=>hml e.symm),aTc hmls]
       refine⟨O',fun b hb=>hIm b (g1 b hb),fun hd=>⟨(g2 hd).1,fun b hb=>⟨?_,hFree b (g1 b hb) ((g2 hd).2 b hb).2⟩⟩,?_⟩
       · have e:=((g2 hd).2 b hb).1
         show(if _ then _ else _)=_
         rw[aTc (hImne b (g1 b hb))]
         split
         · rename_i hc
           rcases((hdeep hc.2).2 b hc.1).2.2 with⟨k',_,e'⟩ | ⟨m',hm',e'⟩ | e' <;> rw[e]at e' <;> simp at e'
           subst e';exact absurd hm' hmls
         · exact e
       · rcases g3 with⟨e1,e2,e3⟩ | ⟨b,c,t',e1,e2,e3,e4⟩
         · exact .inl ⟨eβ.trans e1,e2,e3⟩
         · have hbne:=hβb m b e1 hmls
           refine .inr ⟨b,c,t',eβ.trans e1,?_,by rw[hother b (h.block_lt e1) hbne];exact e3,?_⟩
           · show(if _ then _ else _)=_
             rw[aTc hbne]
             split
             · rename_i hc
               exact absurd e2 ((hO b hc.1).2.2 m)
             · exact e2
           · cases hbx:ob'.box with
             | false=>rw[hbx]at e4;exact aWk _ _ _ _ (fun _ _ l _=>aWC _ _ l) (fun b hb=>hheap b (g1 b hb)) e4
             | true =>
              rw[hbx]at e4
              exact aWk _ _ _ _ (fun p hp m' hm'=>hkeep m' (fun e=>hl.2.1 m ob' hm hbx p hp (e▸hm'))) (fun b hb=>hheap b (g1 b hb)) e4
 · simp only[Env.app,aTm,aI,uR]at hm
   show(if _ then _ else _)=_
   by_cases hml:m=l
   · subst hml;rw[aTd rfl]at hm;cases hm
   · rw[aTc hml]
     rw[aTc (fun e=>hml e.symm)]at hm
     by_cases hmls:m∈ls
     · rw[aTd hmls]
     · rw[aTc hmls]at hm ⊢;exact h.gone m hm
 · have hb':(if b=b0 then Own.lab l else if b∈O/\ob.deep=true then Own.obj l else ow b)≠Own.none:=hb
   by_cases hbb:b=b0
   · subst hbb;exact⟨hlt,.inl (.inl hbase)⟩
   · rw[aTc hbb]at hb'
     by_cases hc:b∈O/\ob.deep=true
     · exact⟨aTp (hO b hc.1).1 hw.size,.inl ((hdeep hc.2).2 b hc.1).2.1⟩
     · rw[aTc hc]at hb'
       obtain⟨g1,g2⟩:=h.own b hb'
       refine⟨aTp g1 hw.size,g2.imp id fun⟨m,g3,g4⟩=>⟨m,?_,g4⟩⟩
       show(if _ then _ else _)=_
       rw[aTc hbb,aTc hc];exact g3
 · simp only[Env.app,aTm,aI,uR]at hs
   have hml:m≠l:=by rintro rfl;rw[hio]at hm;cases hm
   rw[aTc (fun e=>hml e.symm)]at hs
   have hmls:m∉ls:=by intro e;rw[aTd e]at hs;simp at hs
   rw[aTc hmls]at hs
   show(if _ then _ else _)=_
   rw[aTc hml,aTc hmls];exact h.ios m b hm hs
 · have hm':(if m=l then some (some b0)else if m∈ls then none else β m)=some (some b):=hm
   by_cases hml:m=l
   · rw[aTd hml]at hm';cases hm';exact hbase
   · rw[aTc hml]at hm'
     by_cases hmls:m∈ls
     · rw[aTd hmls]at hm';cases hm'
     · rw[aTc hmls]at hm';exact h.fresh m b hm' hiom
theorem SimG.rewrite (h:SimG Γ ow β E a w){w':World}(hw:Same w w'){l b0:Nat}(hβ0:β l=some (some b0))(hother:∀ b,b<w.heap.size->b≠b0->w'.heap[b]?=w.heap[b]?)
 {cs cs':Array Value} {t:TypeId} (hrow0:w.heap[b0]?=some (.cells cs t (0,0))) (hrow:w'.heap[b0]?=some (.cells cs' t (0,0))) (hsz:cs'.size=cs.size) (ks:List Nat) (ob:Ob) {O:List Nat}
 (hrel:RelL w'.heap true (if ob.box then β else dead) ob.cells cs' 0 O) (hO:∀ b∈O,Im Γ ow w b)
 (hdeep:ob.deep=true->O.Nodup/\∀ b∈O,fP w b/\Γ.nw b/\((∃ k∈ks,ow b=.slot k)\/ow b=.obj l\/ow b=.none)) :
 ∃ ow',SimG Γ ow' β (E.app ⟨ks.map (fun j=>(j,⟨.any,false⟩)),[(l,some ob)]⟩) a w':=by
 let ow':Nat->Own:=fun b=>if b∈O/\ob.deep=true then .obj l else ow b
 have hlab0:=h.lab_ne hβ0
 have hImne:∀ b,Im Γ ow w b->b≠b0:=by rintro b ⟨_,_,h3⟩ rfl;exact h3 l hlab0
 have hIm:∀ b,Im Γ ow w b->Im Γ ow' w' b:=by
  intro b hb
  refine⟨aTp hb.1 hw.size,hb.2.1,fun m=>?_⟩
  show(if _ then _ else _)≠_
  split
  · simp
  · exact hb.2.2 m
 have hFree:∀ b,Im Γ ow w b->fP w b->fP w' b:=fun b hb ⟨c,t,hc⟩=>⟨c,t,by rw[hother b hb.1 (hImne b hb)];exact hc⟩
 have hheap:∀ b,Im Γ ow w b->w'.heap[b]?=w.heap[b]?:=fun b hb=>hother b hb.1 (hImne b hb)
 have hshape:∀ b,b<w.heap.size->aB6 w.heap w'.heap b:=by
  intro b hb c t' hc
  by_cases hbb:b=b0
  · subst hbb;rw[hrow0]at hc;cases hc;exact⟨cs',hrow,hsz⟩
  · exact⟨c,by rw[hother b hb hbb];exact hc,rfl⟩
 have hkeep:∀ m,KeepB w.heap w'.heap β β m:=fun m o ho=>⟨ho,fun b hob=>by subst hob;exact hshape b (h.block_lt ho)⟩
 refine⟨ow',{ size:=h.size,defers:=h.defers,kept:=?_,slots:=fun k=>?_,objs:=fun m ob' hm=>?_,gone:=fun m hm=>?_,own:=fun b hb=>?_,ios:=fun m b hm hs=>?_,fresh:=h.fresh }⟩
 · refine⟨hw.os.trans h.kept.os,hw.output.trans h.kept.output,hw.tape.trans h.kept.tape,aTr h.kept.size hw.size,fun b h1 h2 hmi=>?_,fun b h1 hmi c t' h2=>?_⟩
   · have hne:b≠b0:=by
      rintro rfl
      cases hi:Γ.io l with
      | none =>
       rcases h.fresh l b hβ0 hi with g | g
       · omega
       · exact hmi g
      | some b' =>
       have hsome:(lo E.o l).isSome=true:=by
        cases hoo:lo E.o l with
        | none=>rw[h.gone l hoo]at hβ0;cases hβ0
        | some _=>rfl
       have:=h.ios l b' hi hsome
       rw[hβ0]at this;cases this
       exact h2 l hi
     exact(hother b (aTp h1 h.kept.size) hne).trans (h.kept.old b h1 h2 hmi)
   · obtain⟨c',h3,h4⟩:=h.kept.ios b h1 hmi c t' h2
     obtain⟨c'',h5,h6⟩:=hshape b (aTp h1 h.kept.size) c' t' h3
     exact⟨c'',h5,h6.trans h4⟩
 · simp only[Env.app,aBY]
   by_cases hk:k∈ks
   · rw[aTd hk];exact⟨[],by simp[RelV],by simp,by simp⟩
   · rw[aTc hk]
     obtain⟨O',g1,g2,g3⟩:=h.slots k
     refine⟨O',aWl _ _ _ (fun m _=>hkeep m) (fun b hb=>hheap b (g2 b hb)) g1,fun b hb=>hIm b (g2 b hb),fun hd=>⟨(g3 hd).1,fun b hb=>⟨?_,hFree b (g2 b hb) ((g3 hd).2 b hb).2⟩⟩⟩
     have e:=((g3 hd).2 b hb).1
     show(if _ then _ else _)=_
     split
     · rename_i hc
       rcases((hdeep hc.2).2 b hc.1).2.2 with⟨k',hk',e'⟩ | e' | e' <;> rw[e]at e' <;> simp at e'
       subst e';exact absurd hk' hk
     · exact e
 · simp only[Env.app,aTm,aTi,aI]at hm
   by_cases hml:l=m
   · subst hml
     rw[aTd rfl]at hm;cases hm
     refine⟨O,fun b hb=>hIm b (hO b hb),fun hd=>⟨(hdeep hd).1,fun b hb=>⟨?_,hFree b (hO b hb) ((hdeep hd).2 b hb).1⟩⟩,.inr ⟨b0,cs',t,hβ0,?_,hrow,hrel⟩⟩
     · show(if _ then _ else _)=_;rw[aTd ⟨hb,hd⟩]
     · show(if _ then _ else _)=_
       rw[aTc (fun hc=>hImne b0 (hO b0 hc.1) rfl)];exact hlab0
   · rw[aTc hml]at hm
     obtain⟨O',g1,g2,g3⟩:=h.objs m ob' hm
     refine⟨O',fun b hb=>hIm b (g1 b hb),fun hd=>⟨(g2 hd).1,fun b hb=>⟨?_,hFree b (g1 b hb) ((g2 hd).2 b hb).2⟩⟩,?_⟩
     · have e:=((g2 hd).2 b hb).1
       show(if _ then _ else _)=_
       split
       · rename_i hc
         rcases((hdeep hc.2).2 b hc.1).2.2 with⟨k',_,e'⟩ | e' | e' <;> rw[e]at e' <;> simp at e'
         exact absurd e'.symm hml
       · exact e
     · rcases g3 with g3 | ⟨b,c,t',e1,e2,e3,e4⟩
       · exact .inl g3
       · have hbne:b≠b0:=by rintro rfl;rw[hlab0]at e2;simp at e2;exact hml e2
         refine .inr ⟨b,c,t',e1,?_,by rw[hother b (h.block_lt e1) hbne];exact e3,?_⟩
         · show(if _ then _ else _)=_
           rw[aTc (fun hc=>(hO b hc.1).2.2 m e2)];exact e2
         · cases hbx:ob'.box with
           | false=>rw[hbx]at e4;exact aWk _ _ _ _ (fun _ _ l _=>aWC _ _ l) (fun b hb=>hheap b (g1 b hb)) e4
           | true=>rw[hbx]at e4;exact aWk _ _ _ _ (fun _ _ m' _=>hkeep m') (fun b hb=>hheap b (g1 b hb)) e4
 · simp only[Env.app,aTm,aTi,aI]at hm
   by_cases hml:l=m
   · rw[aTd hml]at hm;cases hm
   · rw[aTc hml]at hm;exact h.gone m hm
 · have hb':(if b∈O/\ob.deep=true then Own.obj l else ow b)≠Own.none:=hb
   by_cases hc:b∈O/\ob.deep=true
   · exact⟨aTp (hO b hc.1).1 hw.size,.inl ((hdeep hc.2).2 b hc.1).2.1⟩
   · rw[aTc hc]at hb'
     obtain⟨g1,g2⟩:=h.own b hb'
     refine⟨aTp g1 hw.size,g2.imp id fun⟨m,g3,g4⟩=>⟨m,?_,g4⟩⟩
     show(if _ then _ else _)=_
     rw[aTc hc];exact g3
 · simp only[Env.app,aTm,aTi,aI]at hs
   by_cases hml:l=m
   · subst hml
     have:(lo E.o l).isSome=true:=by
      cases ho:lo E.o l with
      | none=>rw[h.gone l ho]at hβ0;cases hβ0
      | some _=>rfl
     exact h.ios l b hm this
   · rw[aTc hml]at hs;exact h.ios m b hm hs
end
/- The engine, part F: the rules for single operations. -/
open Go.RowKit (Below)
def strip:PV->PV
 | .was _ p=>p
 | p=>p
theorem RelV.strip {h:Array Obj}{β:Nat->Option (Option Nat)}{p:PV}{c:Value}{B:List Nat}(H:RelV h β p c B):RelV h β (Ev.strip p) c B:=by
 cases p with
 | was v q=>simp only[RelV]at H;exact H.2
 | _=>exact H
def evq (S:List (Nat×Slot)):Operand->Option PV
 | .tmp t=>match lkq S t with
  | some ⟨v,_⟩=>some (strip v)
  | none=>none
 | .const v=>some (.sc v)
 | _=>none
def ors:Operand->List Nat
 | .tmp t=>[t]
 | _=>[]
def pE:List Operand->List Nat
 | []=>[]
 | .tmp t::r=>t::pE r
 | _::r=>pE r
class TI (P:Program) (t:Nat) (n:outParam Nat) (agg:outParam Bool) (bytes:outParam Nat):Prop where
 ok:(∃ i,P.info? t=some i/\i.size=n/\i.bytes=bytes)/\∃ d,P.underlying t=some d/\(match d with | .struct _ | .array _ _=>true | _=>false)=agg
def tiB (P:Program)(t n:Nat)(agg:Bool)(bytes:Nat):Bool :=
 match P.info? t,P.underlying t with
 | some i,some d=>Nat.beq i.size n&&Nat.beq i.bytes bytes&&((match d with | .struct _ | .array _ _=>true | _=>false) == agg)
 | _,_=>false
theorem TI.of {P:Program}{t n:Nat}{agg:Bool}{bytes:Nat}(h:tiB P t n agg bytes=true):TI P t n agg bytes:=by
 unfold tiB at h
 split at h
 · rename_i i d h1 h2
   simp only[aTB,beq_iff_eq]at h
   exact⟨⟨i,h1,aTN h.1.1,aTN h.1.2⟩,d,h2,h.2⟩
 · cases h
class UT (P:Program) (t:Nat) (d:outParam TypeDesc):Prop where
 ok:P.underlying t=some d
class SlT (P:Program) (t:Nat) (e:outParam Nat):Prop where
 ok:P.underlying t=some (.slice e)
class ArT (P:Program) (t:Nat) (len e:outParam Nat):Prop where
 ok:P.underlying t=some (.array len e)
class FldT (P:Program) (t f:Nat) (off:outParam Nat):Prop where
 ok:∃ fs fd i,P.underlying t=some (.struct fs)/\fs[f]?=some fd/\fd.offset=off/\P.info? fd.type=some i/\i.size≠0
def aSw (P:Program)(t f off:Nat):Bool :=
 match P.underlying t with
 | some (.struct fs)=>match fs[f]? with
  | some fd=>match P.info? fd.type with
   | some i=>Nat.beq fd.offset off&&!Nat.beq i.size 0
   | none=>false
  | none=>false
 | _=>false
theorem FldT.of {P:Program}{t f off:Nat}(h:aSw P t f off=true):FldT P t f off:=by
 unfold aSw at h
 split at h
 · rename_i fs h1
   split at h
   · rename_i fd h2
     split at h
     · rename_i i h3
       simp only[aTB,aVu]at h
       refine⟨fs,fd,i,h1,h2,aTN h.1,h3,fun e=>?_⟩
       rw[e]at h;simp at h
     · cases h
   · cases h
 · cases h
section
variable {P:Program}{N:Nat}{Γ:Ctx P N}{S:List (Nat×Slot)}{O:List (Nat×Option Ob)}
theorem dG {ow:Nat->Own}{β:Nat->Option (Option Nat)}{F:Env}{a:Act}{w:World}(h:SimG Γ ow β F a w){x:Operand}{v:PV}(hv:evq S x=some v)(ha:∀ k∈ors x,lk F.s k=lk S k) :
 ∃ B,RelV w.heap β v (a.eval x) B/\∀ b∈B,Im Γ ow w b:=by
 cases x with
 | tmp t =>
  simp only[evq]at hv
  cases hq:lkq S t with
  | none=>rw[hq]at hv;cases hv
  | some sl =>
   rw[hq]at hv;cases hv
   obtain⟨B,h1,h2,_⟩:=h.slots t
   rw[ha t (by simp[ors]),fM hq]at h1
   exact⟨B,h1.strip,h2⟩
 | const u =>
  simp only[evq]at hv;cases hv
  exact⟨[],by simp[RelV,Act.eval],by simp⟩
 | global g=>cases hv
 | func f=>cases hv
theorem zD {F:Env}{a:Act}{w:World}(h:Sim Γ F a w){x:Operand}{v:Value}(hv:evq S x=some (.sc v))(ha:∀ k∈ors x,lk F.s k=lk S k):a.eval x=v:=by
 obtain⟨ow,β,h⟩:=h
 obtain⟨B,h1,_⟩:=dG h hv ha
 simp only[RelV]at h1
 exact h1.1
theorem aPv {o:Oper}{d:Nat}{v:Value}{rs:List Nat}(hd:o.dst=some d)(hn:Nat.blt d N=true)
 (h:∀ (F:Env) (a:Act) (w:World),Sim Γ F a w->(∀ k∈rs,lk F.s k=lk S k)->(execOp a.eval o).run P w=.ok (.value v) w) :
 Local Γ o ⟨S,O⟩ ⟨[(d,⟨.sc v,false⟩)],[]⟩ rs [] []:=by
 intro F hs _ _
 refine bK fun a w hsim=>⟨v,w,h F a w hsim hs,?_⟩
 obtain⟨ow,β,hsim⟩:=hsim
 rw[hd]
 exact⟨ow,β,hsim.put ((aT _ _).1 hn) (O:=[]) (by simp[RelV]) (by simp)⟩
theorem aIX {o:Oper}{d:Nat}{x:Operand}{v:PV}{rs:List Nat}(hd:o.dst=some d)(hn:Nat.blt d N=true)(hv:evq S x=some v)(hr:∀ k∈ors x,k∈rs)
 (h:∀ (F:Env) (a:Act) (w:World),Sim Γ F a w->(∀ k∈rs,lk F.s k=lk S k)->(execOp a.eval o).run P w=.ok (.value (a.eval x)) w) :
 Local Γ o ⟨S,O⟩ ⟨[(d,⟨v,false⟩)],[]⟩ rs [] []:=by
 intro F hs _ _
 refine bK fun a w hsim=>⟨a.eval x,w,h F a w hsim hs,?_⟩
 obtain⟨ow,β,hsim⟩:=hsim
 obtain⟨B,h1,h2⟩:=dG hsim hv (fun k hk=>hs k (hr k hk))
 rw[hd]
 exact⟨ow,β,hsim.put ((aT _ _).1 hn) h1 h2⟩
variable {d:Nat}{ty:TypeId}{pos:String}{af:Array Edge}{g:Option (Nat×Bool)}
theorem aAn {x:Operand}{v:PV}(hv:evq S x=some v)(hd:Nat.blt d N=true):Local Γ ⟨some d,.move x,ty,pos,af,g⟩ ⟨S,O⟩ ⟨[(d,⟨v,false⟩)],[]⟩ (ors x) [] [] :=
 aIX rfl hd hv (fun _ h=>h) fun F a w _ _=>by simp[execOp]
theorem aQ9 {x:Operand}{v:PV}(hv:evq S x=some v)(hd:Nat.blt d N=true):Local Γ ⟨some d,.assign x,ty,pos,af,g⟩ ⟨S,O⟩ ⟨[(d,⟨v,false⟩)],[]⟩ (ors x) [] [] :=
 aIX rfl hd hv (fun _ h=>h) fun F a w _ _=>by simp[execOp]
theorem aPu {o:Oper}{s:Nat}{v:PV}{dp:Bool}(ho:o.dst=some d)(hop:∀ ρ,execOp ρ o=pure (.value (ρ (.tmp s))))(hv:lkq S s=some ⟨v,dp⟩)(hd:Nat.blt d N=true)(hne:Nat.beq d s=false) :
 Local Γ o ⟨S,O⟩ ⟨[(d,⟨v,dp⟩),(s,⟨.any,false⟩)],[]⟩ [s] [] []:=by
 intro F hs _ _
 refine bK fun a w hsim=>⟨a.eval (.tmp s),w,by rw[hop];simp,?_⟩
 obtain⟨ow,β,hsim⟩:=hsim
 rw[ho]
 obtain⟨ow',h⟩:=hsim.take (s:=s) ((aT _ _).1 hd) (fun e=>by rw[kR]at hne;simp at hne;exact hne e) (v:=v) (dp:=dp) ((hs s (by simp)).trans (fM hv))
 exact⟨ow',β,h⟩
theorem aR3 {s:Nat}{v:PV}{dp:Bool}(hv:lkq S s=some ⟨v,dp⟩)(hd:Nat.blt d N=true)(hne:Nat.beq d s=false) :
 Local Γ ⟨some d,.move (.tmp s),ty,pos,af,g⟩ ⟨S,O⟩ ⟨[(d,⟨v,dp⟩),(s,⟨.any,false⟩)],[]⟩ [s] [] []:=aPu rfl (fun ρ=>by simp[execOp]) hv hd hne
theorem aLy {s:Nat}{v:PV}{dp:Bool}(hv:lkq S s=some ⟨v,dp⟩)(hd:Nat.blt d N=true)(hne:Nat.beq d s=false) :
 Local Γ ⟨some d,.assign (.tmp s),ty,pos,af,g⟩ ⟨S,O⟩ ⟨[(d,⟨v,dp⟩),(s,⟨.any,false⟩)],[]⟩ [s] [] []:=aPu rfl (fun ρ=>by simp[execOp]) hv hd hne
theorem aQv {c x y:Operand}{v:PV}(hc:evq S c=some (.sc (.bool true)))(hv:evq S x=some v)(hd:Nat.blt d N=true):Local Γ ⟨some d,.pick c x y,ty,pos,af,g⟩ ⟨S,O⟩ ⟨[(d,⟨v,false⟩)],[]⟩ (ors c++ors x) [] [] :=
 aIX rfl hd hv (fun _ h=>by simp[h]) fun F a w hsim hs=>by
  have:=zD hsim hc (fun k hk=>hs k (by simp[hk]))
  simp[execOp,this,asBool]
theorem aQw {c x y:Operand}{v:PV}(hc:evq S c=some (.sc (.bool false)))(hv:evq S y=some v)(hd:Nat.blt d N=true):Local Γ ⟨some d,.pick c x y,ty,pos,af,g⟩ ⟨S,O⟩ ⟨[(d,⟨v,false⟩)],[]⟩ (ors c++ors y) [] [] :=
 aIX rfl hd hv (fun _ h=>by simp[h]) fun F a w hsim hs=>by
  have:=zD hsim hc (fun k hk=>hs k (by simp[hk]))
  simp[execOp,this,asBool]
theorem aSL {x:Operand}{u:TypeId}{b:Bool}(hx:evq S x=some (.sc (.bool b)))(hd:Nat.blt d N=true):Local Γ ⟨some d,.unOp .not u x,ty,pos,af,g⟩ ⟨S,O⟩ ⟨[(d,⟨.sc (.bool (!b)),false⟩)],[]⟩ (ors x) [] [] :=
 aPv rfl hd fun F a w hsim hs=>by
  have:=zD hsim hx hs
  simp[execOp,this,Op.unary]
theorem aMv {x:Operand}{u:TypeId}{k:IntKind}{n r:Int}(hx:evq S x=some (.sc (.int k n)))(hr:k.wrap (0-n)=r)(hd:Nat.blt d N=true):Local Γ ⟨some d,.unOp .neg u x,ty,pos,af,g⟩ ⟨S,O⟩ ⟨[(d,⟨.sc (.int k r),false⟩)],[]⟩ (ors x) [] [] :=
 aPv rfl hd fun F a w hsim hs=>by
  have:=zD hsim hx hs
  subst hr
  simp[execOp,this,Op.unary,Op.intArith]
section bin
variable {x y:Operand}{u u':TypeId}
theorem wS {op:BinOp}{a0 b0 c:Value}(hx:evq S x=some (.sc a0))(hy:evq S y=some (.sc b0))(hd:Nat.blt d N=true)
 (h:∀ w,(do eqGuard op u x y a0 b0;binOp op u a0 b0:Sem Value).run P w=.ok c w):Local Γ ⟨some d,.binOp op u x y u',ty,pos,af,g⟩ ⟨S,O⟩ ⟨[(d,⟨.sc c,false⟩)],[]⟩ (ors x++ors y) [] [] :=
 aPv rfl hd fun F a w hsim hs=>by
  have h1:=zD hsim hx (fun k hk=>hs k (by simp[hk]))
  have h2:=zD hsim hy (fun k hk=>hs k (by simp[hk]))
  have h3:=h w
  simp only[execOp,h1,h2]
  rw[Sem.run_bind,h3];rfl
variable {k:IntKind}{m n r:Int}
theorem aSv (m n:Int):(m == n)=decide (m=n):=by by_cases h:m=n <;> simp[h]
theorem aSS (hx:evq S x=some (.sc (.int k m)))(hy:evq S y=some (.sc (.int k n)))(hr:k.wrap (m+n)=r)(hd:Nat.blt d N=true) :
 Local Γ ⟨some d,.binOp .add u x y u',ty,pos,af,g⟩ ⟨S,O⟩ ⟨[(d,⟨.sc (.int k r),false⟩)],[]⟩ (ors x++ors y) [] [] :=
 wS hx hy hd fun w=>by subst hr;simp[eqGuard,binOp,Op.intArith]
theorem aSH (hx:evq S x=some (.sc (.int k m)))(hy:evq S y=some (.sc (.int k n)))(hr:k.wrap (m-n)=r)(hd:Nat.blt d N=true) :
 Local Γ ⟨some d,.binOp .sub u x y u',ty,pos,af,g⟩ ⟨S,O⟩ ⟨[(d,⟨.sc (.int k r),false⟩)],[]⟩ (ors x++ors y) [] [] :=
 wS hx hy hd fun w=>by subst hr;simp[eqGuard,binOp,Op.intArith]
theorem aSM (hx:evq S x=some (.sc (.int k m)))(hy:evq S y=some (.sc (.int k n)))(hr:k.wrap (m*n)=r)(hd:Nat.blt d N=true) :
 Local Γ ⟨some d,.binOp .mul u x y u',ty,pos,af,g⟩ ⟨S,O⟩ ⟨[(d,⟨.sc (.int k r),false⟩)],[]⟩ (ors x++ors y) [] [] :=
 wS hx hy hd fun w=>by subst hr;simp[eqGuard,binOp,Op.intArith]
theorem aSK (hx:evq S x=some (.sc (.int k m)))(hy:evq S y=some (.sc (.int k n)))(hn:n≠0)(hr:k.wrap (m.tdiv n)=r)(hd:Nat.blt d N=true) :
 Local Γ ⟨some d,.binOp .quo u x y u',ty,pos,af,g⟩ ⟨S,O⟩ ⟨[(d,⟨.sc (.int k r),false⟩)],[]⟩ (ors x++ors y) [] [] :=
 wS hx hy hd fun w=>by subst hr;simp[eqGuard,binOp,Op.intDiv,hn]
theorem aSJ (hx:evq S x=some (.sc (.int k m)))(hy:evq S y=some (.sc (.int k n)))(hn:n≠0)(hr:m.tmod n=r)(hd:Nat.blt d N=true) :
 Local Γ ⟨some d,.binOp .rem u x y u',ty,pos,af,g⟩ ⟨S,O⟩ ⟨[(d,⟨.sc (.int k r),false⟩)],[]⟩ (ors x++ors y) [] [] :=
 wS hx hy hd fun w=>by subst hr;simp[eqGuard,binOp,Op.intDiv,hn]
theorem aMw (hx:evq S x=some (.sc (.int k m)))(hy:evq S y=some (.sc (.int k n)))(hd:Nat.blt d N=true) :
 Local Γ ⟨some d,.binOp .eql u x y u',ty,pos,af,g⟩ ⟨S,O⟩ ⟨[(d,⟨.sc (.bool (decide (m=n))),false⟩)],[]⟩ (ors x++ors y) [] [] :=
 wS hx hy hd fun w=>by simp[eqGuard,binOp,Op.intCmp];exact aSv m n
theorem aPw (hx:evq S x=some (.sc (.int k m)))(hy:evq S y=some (.sc (.int k n)))(hd:Nat.blt d N=true) :
 Local Γ ⟨some d,.binOp .neq u x y u',ty,pos,af,g⟩ ⟨S,O⟩ ⟨[(d,⟨.sc (.bool (decide (m≠n))),false⟩)],[]⟩ (ors x++ors y) [] [] :=
 wS hx hy hd fun w=>by simp[eqGuard,binOp,Op.intCmp,bne];exact aSv m n
theorem aPx (hx:evq S x=some (.sc (.int k m)))(hy:evq S y=some (.sc (.int k n)))(hd:Nat.blt d N=true) :
 Local Γ ⟨some d,.binOp .lss u x y u',ty,pos,af,g⟩ ⟨S,O⟩ ⟨[(d,⟨.sc (.bool (decide (m<n))),false⟩)],[]⟩ (ors x++ors y) [] [] :=
 wS hx hy hd fun w=>by simp[eqGuard,binOp,Op.intCmp]
theorem aQ4 (hx:evq S x=some (.sc (.int k m)))(hy:evq S y=some (.sc (.int k n)))(hd:Nat.blt d N=true) :
 Local Γ ⟨some d,.binOp .leq u x y u',ty,pos,af,g⟩ ⟨S,O⟩ ⟨[(d,⟨.sc (.bool (decide (m<=n))),false⟩)],[]⟩ (ors x++ors y) [] [] :=
 wS hx hy hd fun w=>by simp[eqGuard,binOp,Op.intCmp]
theorem aQ7 (hx:evq S x=some (.sc (.int k m)))(hy:evq S y=some (.sc (.int k n)))(hd:Nat.blt d N=true) :
 Local Γ ⟨some d,.binOp .gtr u x y u',ty,pos,af,g⟩ ⟨S,O⟩ ⟨[(d,⟨.sc (.bool (decide (n<m))),false⟩)],[]⟩ (ors x++ors y) [] [] :=
 wS hx hy hd fun w=>by simp[eqGuard,binOp,Op.intCmp]
theorem aQ8 (hx:evq S x=some (.sc (.int k m)))(hy:evq S y=some (.sc (.int k n)))(hd:Nat.blt d N=true) :
 Local Γ ⟨some d,.binOp .geq u x y u',ty,pos,af,g⟩ ⟨S,O⟩ ⟨[(d,⟨.sc (.bool (decide (n<=m))),false⟩)],[]⟩ (ors x++ors y) [] [] :=
 wS hx hy hd fun w=>by simp[eqGuard,binOp,Op.intCmp]
variable {s t:ByteArray}
theorem aLx {p q:Bool}[hu:UT P u .bool](hx:evq S x=some (.sc (.bool p)))(hy:evq S y=some (.sc (.bool q)))(hd:Nat.blt d N=true) :
 Local Γ ⟨some d,.binOp .eql u x y u',ty,pos,af,g⟩ ⟨S,O⟩ ⟨[(d,⟨.sc (.bool (p == q)),false⟩)],[]⟩ (ors x++ors y) [] [] :=
 wS hx hy hd fun w=>by simp[eqGuard,run_eql_bool w u p q hu.ok]
theorem aSe {p q:Bool}[hu:UT P u .bool](hx:evq S x=some (.sc (.bool p)))(hy:evq S y=some (.sc (.bool q)))(hd:Nat.blt d N=true) :
 Local Γ ⟨some d,.binOp .neq u x y u',ty,pos,af,g⟩ ⟨S,O⟩ ⟨[(d,⟨.sc (.bool (!(p == q))),false⟩)],[]⟩ (ors x++ors y) [] [] :=
 wS hx hy hd fun w=>by simp[eqGuard,run_neq_bool w u p q hu.ok]
end bin
theorem aKi {ops rest:List Oper}{K:List Item->Env->Prop}{acc:List Item}{o:Oper}{p:Prop}{_hp:Decidable p}{rs ro gs:List Nat}(hl:Local Γ o ⟨S,O⟩ ⟨[(d,⟨.sc (.bool (decide p)),false⟩)],[]⟩ rs ro [])(hg:gd N ops S true o.guard=some gs)
 (ht:p->Run Γ ops K rest (⟨⟨[(d,⟨.sc (.bool true),false⟩)],[]⟩,gs++rs,ro,[]⟩::acc) ⟨(d,⟨.sc (.bool true),false⟩)::S,O⟩)
 (hf:¬p->Run Γ ops K rest (⟨⟨[(d,⟨.sc (.bool false),false⟩)],[]⟩,gs++rs,ro,[]⟩::acc) ⟨(d,⟨.sc (.bool false),false⟩)::S,O⟩):Run Γ ops K (o::rest) acc ⟨S,O⟩:=by
 by_cases h:p
 · rw[aTg h]at hl;exact aWa hl hg rfl (ht h)
 · rw[aTe h]at hl;exact aWa hl hg rfl (hf h)
theorem aLr {ops rest:List Oper}{K:List Item->Env->Prop}{acc:List Item}{o:Oper}{b dp:Bool}{rs ro gs:List Nat}(hl:Local Γ o ⟨S,O⟩ ⟨[(d,⟨.sc (.bool b),dp⟩)],[]⟩ rs ro [])(hg:gd N ops S true o.guard=some gs)
 (ht:b=true->Run Γ ops K rest (⟨⟨[(d,⟨.sc (.bool true),dp⟩)],[]⟩,gs++rs,ro,[]⟩::acc) ⟨(d,⟨.sc (.bool true),dp⟩)::S,O⟩)
 (hf:b=false->Run Γ ops K rest (⟨⟨[(d,⟨.sc (.bool false),dp⟩)],[]⟩,gs++rs,ro,[]⟩::acc) ⟨(d,⟨.sc (.bool false),dp⟩)::S,O⟩):Run Γ ops K (o::rest) acc ⟨S,O⟩:=by
 cases b
 · exact aWa hl hg rfl (hf rfl)
 · exact aWa hl hg rfl (ht rfl)
theorem aSd {x:Operand}{src dst:TypeId}{k q:IntKind}{n r:Int}{ds:TypeDesc}[hs:UT P src ds][ht:UT P dst (.int q)](hx:evq S x=some (.sc (.int k n)))(hr:q.wrap n=r)(hd:Nat.blt d N=true) :
 Local Γ ⟨some d,.convert src dst x,ty,pos,af,g⟩ ⟨S,O⟩ ⟨[(d,⟨.sc (.int q r),false⟩)],[]⟩ (ors x) [] [] :=
 aPv rfl hd fun F a w hsim hl=>by
  have:=zD hsim hx hl
  subst hr
  simp[execOp,this,convert,run_underlying ht.ok,run_underlying hs.ok,Conv.intToInt]
theorem aHg {h:Array Obj}{β:Nat->Option (Option Nat)}{n:Nat}{cells:List PV}{c:Value}{B:List Nat}(H:RelV h β (.sl n cells) c B):∃ a cap,c=.slice a n cap:=by
 simp only[RelV]at H
 rcases H with⟨rfl,_,_,a,cap,rfl⟩ | ⟨b,off,cap,_,_,_,_,⟨rfl,_⟩,_⟩
 · exact⟨a,cap,rfl⟩
 · exact⟨_,cap,rfl⟩
theorem aLI {t ty:TypeId}{e:Nat}(ht:P.underlying t=some (.slice e))(a:Option Addr)(n cap:Nat)(w:World):(Builtin.len_ #[t] ty #[.slice a n cap]).run P w=.ok (.int .i64 n) w:=by
 simp[Builtin.len_,run_underlying ht,goInt]
theorem aSN {x:Operand}{t e:Nat}[ht:SlT P t e]{n:Nat}{cells:List PV}(hx:evq S x=some (.sl n cells))(hd:Nat.blt d N=true) :
 Local Γ ⟨some d,.call ⟨.builtin .len,#[x],#[t]⟩,ty,pos,af,g⟩ ⟨S,O⟩ ⟨[(d,⟨.sc (.int .i64 n),false⟩)],[]⟩ (ors x) [] [] :=
 aPv rfl hd fun F a w hsim hs=>by
  obtain⟨ow,β,hsim⟩:=hsim
  obtain⟨B,h1,_⟩:=dG hsim hx hs
  obtain⟨ad,cap,h2⟩:=aHg h1
  simp[execOp,resolve,invoke,builtin,h2,aLI ht.ok]
theorem aR5 {x:Operand}{t e:Nat}[ht:SlT P t e]{l s off n:Nat}{ob:Ob}(hx:evq S x=some (.ref l s off n))(ho:loq O l=some ob)(hd:Nat.blt d N=true) :
 Local Γ ⟨some d,.call ⟨.builtin .len,#[x],#[t]⟩,ty,pos,af,g⟩ ⟨S,O⟩ ⟨[(d,⟨.sc (.int .i64 n),false⟩)],[]⟩ (ors x) [l] []:=by
 intro F hs hl _
 refine bK fun a w hsim=>⟨.int .i64 n,w,?_,?_⟩
 · obtain⟨ow,β,hsim⟩:=hsim
   obtain⟨B,h1,_⟩:=dG hsim hx hs
   simp only[RelV]at h1
   obtain⟨_,_,_,hob⟩:=hsim.objs l ob (by rw[hl l (by simp),<- bP];exact ho)
   have h2:∃ ad cap,a.eval x=.slice ad n cap:=by
    rcases hob with⟨g1,_⟩ | ⟨b,cs,t,g1,_⟩
    · obtain⟨rfl,_,e⟩:=h1.2.1 g1;exact⟨_,_,e⟩
    · obtain⟨cap,_,_,e,_⟩:=h1.2.2 b g1;exact⟨_,_,e⟩
   obtain⟨ad,cap,h2⟩:=h2
   simp[execOp,resolve,invoke,builtin,h2,aLI ht.ok]
 · obtain⟨ow,β,hsim⟩:=hsim
   exact⟨ow,β,hsim.put ((aT _ _).1 hd) (O:=[]) (by simp[RelV]) (by simp)⟩
end
end Go.Ev
