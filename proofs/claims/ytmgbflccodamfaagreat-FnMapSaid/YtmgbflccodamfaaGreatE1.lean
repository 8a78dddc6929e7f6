/- Parts EvA, EvB, EvC, EvD, EvE. -/
import Derived.Orders
import Derived.Below
import Derived.Laws.Append
import Derived.Laws.AppendOwn
import Derived.Laws.MakeOwn
import Derived.Laws.Tables
import Derived.Laws.Rows
import Derived.Laws.Strings
import Derived.Laws.Slices
import Derived.Laws.Small
import Derived.Laws.Concat
import Derived.Laws.BytesString
set_option linter.all false
set_option maxHeartbeats 4000000
set_option maxRecDepth 20000
/- The engine, part A: abstract by-value values, and how they stand to the machine's values. -/
namespace Go.Ev
def aUp:=@_root_.Option.bind_some
def aUq:=@_root_.if_neg
def aUr:=@_root_.List.mem_cons
def aUs:=@_root_.if_pos
def aUt:=@_root_.decide_eq_false
def aUu:=@_root_.decide_eq_true
def aUv:=@_root_.Bool.false_eq_true
def aUw:=@_root_.List.drop_eq_getElem_cons
def aUx:=@_root_.List.nil_append
def aUy:=@_root_.List.mem_filter
def aUz:=@_root_.List.mem_append
def aUA:=@_root_.List.getElem_mem
def aUB:=@_root_.List.cons_append
def aUC:=@_root_.List.length_cons
def aUD:=@_root_.List.length_eq_zero_iff
def aUE:=@_root_.Nat.le_trans
def aUF:=@_root_.List.length_append
def aUG:=@_root_.List.getElem?_eq_getElem
def aUH:=@_root_.List.map_cons
def aUI:=@_root_.Nat.le_refl
def aUJ:=@_root_.List.mem_map
def aUK:=@_root_.if_true
def aUL:=@_root_.List.nodup_cons
def aUM:=@_root_.List.length_map
def aUN:=@_root_.Nat.lt_of_lt_of_le
def aUO:=@_root_.List.append_assoc
def aUP:=@_root_.Bool.and_eq_true
def aUQ:=@_root_.List.nodup_append
def aUR:=@_root_.Nat.zero_add
def aUS:=@_root_.Nat.mul_le_mul_left
def aUT:=@_root_.if_false
def aUU:=@_root_.List.getD_eq_getElem?_getD
def aUV:=@_root_.Array.getD_eq_getD_getElem?
def aUW:=@_root_.List.drop_eq_nil_of_le
def aUX:=@_root_.Nat.mul_le_mul
def aUY:=@_root_.List.filter_cons
def aUZ:=@_root_.Nat.le_of_ble_eq_true
def aU0:=@_root_.Nat.eq_of_beq_eq_true
def aU1:=@_root_.Int.toNat_natCast
def aU2:=@_root_.List.mem_singleton
def aU3:=@_root_.List.mem_cons_of_mem
def aU4:=@_root_.of_decide_eq_true
def aU5:=@_root_.List.length_singleton
def aU6:=@_root_.Nat.mul_pos
def aU7:=@_root_.Nat.mul_comm
def aU8:=@_root_.List.mem_append_right
def aU9:=@_root_.Nat.pow_le_pow_right
def aVa:=@_root_.List.pairwise_cons
def aVb:=@_root_.decide_eq_true_eq
def aVc:=@_root_.List.flatMap_cons
def aVd:=@_root_.Array.getElem?_eq_none
def aVe:=@_root_.List.mem_append_left
def aVf:=@_root_.List.getElem?_eq_some_iff
def aVg:=@_root_.Bool.or_eq_true
def aVh:=@_root_.Nat.add_zero
def aVi:=@_root_.List.not_mem_nil
def aVj:=@_root_.Bool.not_true
def aVk:=@_root_.Nat.zero_le
def aVl:=@_root_.List.getElem?_append_right
def aVm:=@_root_.List.getElem?_append_left
def aVn:=@_root_.List.drop_zero
def aVo:=@_root_.Int.natAbs_natCast
def aVp:=@_root_.List.length_take
def aVq:=@_root_.Rat.mul_nonneg
def aVr:=@_root_.Nat.mul_assoc
def aVs:=@_root_.List.take_append_drop
def aVt:=@_root_.List.take_of_length_le
def aVu:=@_root_.List.length_nil
def aVv:=@_root_.List.getElem_of_mem
def aVw:=@_root_.List.foldl_cons
def aVx:=@_root_.List.append_nil
def aVy:=@_root_.List.map_nil
def aVz:=@_root_.List.pairwise_map
def aVA:=@_root_.Nat.lt_or_ge
def aVB:=@_root_.List.getElem_cons_zero
def aVC:=@_root_.Nat.mul_le_mul_right
def aVD:=@_root_.Rat.natCast_mul
def aVE:=@_root_.List.map_append
def aVF:=@_root_.Array.getElem?_append
def aVG:=@_root_.List.getElem_map
def aVH:=@_root_.List.mem_range
def aVI:=@_root_.Nat.pow_succ
def aVJ:=@_root_.Nat.pow_le_pow_left
def aVK:=@_root_.List.singleton_append
def aVL:=@_root_.Int.eq_ofNat_of_zero_le
def aVM:=@_root_.Nat.mul_add
def aVN:=@_root_.List.mem_flatMap
def aVO:=@_root_.List.drop_length
def aVP:=@_root_.decide_true
def aVQ:=@_root_.Nat.pow_one
def aVR:=@_root_.List.mem_map_of_mem
def aVS:=@_root_.List.getElem?_toArray
def aVT:=@_root_.List.eq_nil_or_concat
def aVU:=@_root_.List.concat_eq_append
def aVV:=@_root_.Int.natAbs_mul
def aVW:=@_root_.Nat.lt_of_le_of_lt
def aVX:=@_root_.Nat.le_mul_of_pos_right
def aVY:=@_root_.List.filter_filter
def aVZ:=@_root_.decide_false
def aV0:=@_root_.Nat.mod_eq_of_lt
def aV1:=@_root_.List.take_length
def aV2:=@_root_.List.length_drop
def aV3:=@_root_.Array.getElem?_eq_some_iff
def aV4:=@_root_.List.take_add_one
def aV5:=@_root_.List.replicate_succ
def aV6:=@_root_.Nat.succ_mul
def aV7:=@_root_.Nat.div_lt_iff_lt_mul
def aV8:=@_root_.List.getElem?_eq_none
def aV9:=@_root_.List.filter_nil
def aWa:=@_root_.List.eq_nil_iff_forall_not_mem
def aWb:=@_root_.Nat.pos_of_ne_zero
def aWc:=@_root_.List.getElem?_take
def aWd:=@_root_.List.getElem?_drop
def aWe:=@_root_.Nat.mul_dvd_mul_left
def aWf:=@_root_.List.pairwise_append
def aWg:=@_root_.Bool.not_false
def aWh:=@_root_.Nat.mod_lt
def aWi:=@_root_.List.filter_congr
def aWj:=@_root_.Bool.not_eq_true'
def aWk:=@_root_.Nat.min_eq_left
def aWl:=@_root_.List.take_succ_cons
def aWm:=@_root_.List.flatMap_nil
def aWn:=@_root_.List.any_eq_true
def aWo:=@_root_.List.map_map
def aWp:=@_root_.List.length_filter_le
def aWq:=@_root_.Classical.em
def aWr:=@_root_.List.take_zero
def aWs:=@_root_.Array.getElem?_eq_getElem
def aWt:=@_root_.Nat.sub_zero
def aWu:=@_root_.List.flatMap_append
def aWv:=@_root_.Rat.intCast_le_intCast
def aWw:=@_root_.List.getElem_cons_succ
def aWx:=@_root_.decide_eq_true_iff
def aWy:=@_root_.Rat.intCast_mul
def aWz:=@_root_.Nat.mod_add_div
def aWA:=@_root_.Nat.mul_left_comm
def aWB:=@_root_.Nat.dvd_mul_right
def aWC:=@_root_.Array.getElem?_append_left
def aWD:=@_root_.dif_pos
def aWE:=@_root_.dif_neg
def aWF:=@_root_.Int.mul_neg_of_neg_of_pos
def aWG:=@_root_.Nat.dvd_mul_left
def aWH:=@_root_.Array.length_toList
def aWI:=@_root_.Nat.zero_mul
def aWJ:=@_root_.Nat.mul_zero
def aWK:=@_root_.Nat.gcd_pos_of_pos_right
def aWL:=@_root_.Nat.dvd_trans
def aWM:=@_root_.Nat.div_lt_self
def aWN:=@_root_.Nat.div_le_self
def aWO:=@_root_.List.sum_cons
def aWP:=@_root_.List.mem_cons_self
def aWQ:=@_root_.List.length_set
def aWR:=@_root_.List.find?_cons
def aWS:=@_root_.List.filter_append
def aWT:=@_root_.Bool.true_and
def aWU:=@_root_.Rat.natCast_le_natCast
def aWV:=@_root_.Array.getElem?_setIfInBounds_ne
def aWW:=@_root_.Rat.mul_le_mul_of_nonneg_right
def aWX:=@_root_.Nat.div_eq_of_lt
def aWY:=@_root_.List.mem_iff_getElem
def aWZ:=@_root_.List.drop_succ_cons
def aW0:=@_root_.Rat.le_of_mul_le_mul_right
def aW1:=@_root_.Nat.sub_self
def aW2:=@_root_.List.pairwise_iff_getElem
def aW3:=@_root_.Bool.or_false
def aW4:=@_root_.List.getElem_set
def aW5:=@_root_.List.ext_getElem
def aW6:=@_root_.cond_true
def aW7:=@_root_.Rat.natCast_add
def aW8:=@_root_.Option.map_some
open Go.RowKit (Below)
inductive PV where
 | sc (v:Value)
 | sl (n:Nat) (cells:List PV)
 | ref (l s off n:Nat)
 | ptr (l k:Nat)
 | iptr (cells:List PV)
 | rw(s n:Nat) (cells:List PV)
 | agg (cells:List PV)
 | tup (vs:List PV)
 | any
 | was (v:Value) (p:PV)
 deriving Inhabited
def dead:Nat->Option (Option Nat):=fun _=>none
mutual
def RelV (h:Array Obj):(Nat->Option (Option Nat))->PV->Value->List Nat->Prop
 | _,.sc v,c,O=>c=v/\O=[]
 | _,.sl n cells,c,O=>(n=0/\cells=[]/\O=[]/\∃ a cap,c=.slice a 0 cap)\/
  ∃ b off cap cs t f O',(c=.slice (some ⟨b,off,none⟩) n cap/\n<=cap)/\h[b]?=some (.cells cs t f)/\RelL h true dead cells cs off O'/\O=b::O'
 | β,.ref l s off n,c,O=>O=[]/\(β l=some none->n=0/\off=0/\c=.slice none 0 0)/\
  ∀ b,β l=some (some b)->∃ cap cs t,c=.slice (some ⟨b,off*s,none⟩) n cap/\h[b]?=some (.cells cs t (0,0))/\(off+cap)*s<=cs.size/\n<=cap
 | β,.ptr l k,c,O=>O=[]/\∀ b,β l=some (some b)->c=.pointer (some ⟨b,k,none⟩)
 | _,.iptr cells,c,O=>∃ b off cs t f O',c=.pointer (some ⟨b,off,none⟩)/\h[b]?=some (.cells cs t f)/\RelL h true dead cells cs off O'/\O=b::O'
 | _,.rw s n cells,c,O=>(n=0/\cells=[]/\O=[]/\c=.slice none 0 0)\/
  ∃ b cap cs t O',(c=.slice (some ⟨b,0,none⟩) n cap/\n<=cap/\cap*s<=cs.size)/\h[b]?=some (.cells cs t (0,0))/\RelL h true dead cells cs 0 O'/\O=b::O'
 | β,.agg cells,c,O=>∃ cs:Array Value,c=.agg cs/\cs.size=cells.length/\RelL h true β cells cs 0 O
 | β,.tup vs,c,O=>∃ cs:Array Value,c=.tuple cs/\cs.size=vs.length/\RelL h false β vs cs 0 O
 | _,.any,_,O=>O=[]
 | β,.was v p,c,O=>c=v/\RelV h β p c O
def RelL (h:Array Obj)(q:Bool):(Nat->Option (Option Nat))->List PV->Array Value->Nat->List Nat->Prop
 | _,[],_,_,O=>O=[]
 | β,p::ps,cs,i,O=>∃ c O1 O2,(cs[i]?=some c/\(q=true->c.oneCell'=true))/\RelV h β p c O1/\RelL h q β ps cs (i+1) O2/\O=O1++O2
end
def aD9 (h h':Array Obj)(b:Nat):Prop:=∀ cs t,h[b]?=some (.cells cs t (0,0))->∃ cs',h'[b]?=some (.cells cs' t (0,0))/\cs'.size=cs.size
mutual
def PV.labs:PV->List Nat
 | .ref l _ _ _=>[l]
 | .ptr l _=>[l]
 | .agg cells=>aCT cells
 | .tup vs=>aCT vs
 | .was _ p=>p.labs
 | _=>[]
def aCT:List PV->List Nat
 | []=>[]
 | p::ps=>p.labs++aCT ps
end
theorem aAr {l:Nat}:∀ {ps:List PV},l∈aCT ps↔∃ p∈ps,l∈p.labs
 | []=>by simp[aCT]
 | p::ps=>by simp[aCT,aAr (ps:=ps)]
def KeepB (h h':Array Obj)(β β':Nat->Option (Option Nat))(l:Nat):Prop:=∀ ob,β' l=some ob->β l=some ob/\∀ b,ob=some b->aD9 h h' b
theorem KeepB.dead (h h':Array Obj)(l:Nat):KeepB h h' Ev.dead Ev.dead l:=by intro ob e;cases e
mutual
theorem RelV.keep {h h':Array Obj}{β β':Nat->Option (Option Nat)} :
 ∀ (p:PV) (c:Value) (O:List Nat),(∀ l∈p.labs,KeepB h h' β β' l)->(∀ b∈O,h'[b]?=h[b]?)->RelV h β p c O->RelV h' β' p c O
 | .sc v,c,O,_,_,H=>H
 | .sl n cells,c,O,_,hO,H=>by
  simp only[RelV]at H ⊢
  rcases H with H | ⟨b,off,cap,cs,t,f,O',h1,h2,h3,rfl⟩
  · exact .inl H
  · refine .inr ⟨b,off,cap,cs,t,f,O',h1,?_,?_,rfl⟩
    · rw[hO b (by simp)];exact h2
    · exact RelL.keep cells cs off O' (fun _ _ l _=>KeepB.dead _ _ l) (fun b hb=>hO b (by simp[hb])) h3
 | .ref l s off n,c,O,hβ,_,H=>by
  simp only[RelV]at H ⊢
  have hβ:=hβ l (by simp[PV.labs])
  refine⟨H.1,fun hb=>H.2.1 (hβ _ hb).1,fun b hb=>?_⟩
  obtain⟨hb1,hb2⟩:=hβ _ hb
  obtain⟨cap,cs,t,h1,h2,h3,h4⟩:=H.2.2 b hb1
  obtain⟨cs',h5,h6⟩:=hb2 b rfl cs t h2
  exact⟨cap,cs',t,h1,h5,by rw[h6];exact h3,h4⟩
 | .ptr l k,c,O,hβ,_,H=>by
  simp only[RelV]at H ⊢
  exact⟨H.1,fun b hb=>H.2 b (hβ l (by simp[PV.labs]) _ hb).1⟩
 | .iptr cells,c,O,_,hO,H=>by
  simp only[RelV]at H ⊢
  obtain⟨b,off,cs,t,f,O',h1,h2,h3,rfl⟩:=H
  refine⟨b,off,cs,t,f,O',h1,?_,?_,rfl⟩
  · rw[hO b (by simp)];exact h2
  · exact RelL.keep cells cs off O' (fun _ _ l _=>KeepB.dead _ _ l) (fun b hb=>hO b (by simp[hb])) h3
 | .rw s n cells,c,O,_,hO,H=>by
  simp only[RelV]at H ⊢
  rcases H with H | ⟨b,cap,cs,t,O',h1,h2,h3,rfl⟩
  · exact .inl H
  · refine .inr ⟨b,cap,cs,t,O',h1,?_,?_,rfl⟩
    · rw[hO b (by simp)];exact h2
    · exact RelL.keep cells cs 0 O' (fun _ _ l _=>KeepB.dead _ _ l) (fun b hb=>hO b (by simp[hb])) h3
 | .agg cells,c,O,hβ,hO,H=>by
  simp only[RelV]at H ⊢
  obtain⟨cs,h1,h2,h3⟩:=H
  exact⟨cs,h1,h2,RelL.keep cells cs 0 O (fun p hp l hl=>hβ l (by simp only[PV.labs];exact aAr.2 ⟨p,hp,hl⟩)) hO h3⟩
 | .tup vs,c,O,hβ,hO,H=>by
  simp only[RelV]at H ⊢
  obtain⟨cs,h1,h2,h3⟩:=H
  exact⟨cs,h1,h2,RelL.keep vs cs 0 O (fun p hp l hl=>hβ l (by simp only[PV.labs];exact aAr.2 ⟨p,hp,hl⟩)) hO h3⟩
 | .any,c,O,_,_,H=>by simp only[RelV]at H ⊢;exact H
 | .was v p,c,O,hβ,hO,H=>by
  simp only[RelV]at H ⊢
  exact⟨H.1,RelV.keep p c O (fun l hl=>hβ l (by simpa only[PV.labs]using hl)) hO H.2⟩
theorem RelL.keep {h h':Array Obj}{q:Bool}{β β':Nat->Option (Option Nat)} :
 ∀ (ps:List PV) (cs:Array Value) (i:Nat) (O:List Nat),(∀ p∈ps,∀ l∈p.labs,KeepB h h' β β' l)->(∀ b∈O,h'[b]?=h[b]?)->RelL h q β ps cs i O->RelL h' q β' ps cs i O
 | [],cs,i,O,_,_,H=>by simp only[RelL]at H ⊢;exact H
 | p::ps,cs,i,O,hβ,hO,H=>by
  simp only[RelL]at H ⊢
  obtain⟨c,O1,O2,h1,h2,h3,rfl⟩:=H
  exact⟨c,O1,O2,h1,RelV.keep p c O1 (hβ p (by simp)) (fun b hb=>hO b (by simp[hb])) h2,RelL.keep ps cs (i+1) O2 (fun q hq=>hβ q (by simp[hq])) (fun b hb=>hO b (by simp[hb])) h3,rfl⟩
end
mutual
theorem RelV.below {h:Array Obj}{β:Nat->Option (Option Nat)}:∀ (p:PV) (c:Value) (O:List Nat),RelV h β p c O->∀ b∈O,b<h.size
 | .sc v,c,O,H,b,hb=>by simp only[RelV]at H;rw[H.2]at hb;cases hb
 | .sl n cells,c,O,H,b,hb=>by
  simp only[RelV]at H
  rcases H with⟨_,_,h1,_⟩ | ⟨b',off,cap,cs,t,f,O',_,h2,h3,rfl⟩
  · rw[h1]at hb;cases hb
  · rcases aUr.1 hb with rfl | hb
    · rcases aVA b h.size with hlt | hge
      · exact hlt
      · simp[aVd hge]at h2
    · exact RelL.below cells cs off O' h3 b hb
 | .ref l s off n,c,O,H,b,hb=>by simp only[RelV]at H;rw[H.1]at hb;cases hb
 | .ptr l k,c,O,H,b,hb=>by simp only[RelV]at H;rw[H.1]at hb;cases hb
 | .iptr cells,c,O,H,b,hb=>by
  simp only[RelV]at H
  obtain⟨b',off,cs,t,f,O',_,h2,h3,rfl⟩:=H
  rcases aUr.1 hb with rfl | hb
  · rcases aVA b h.size with hlt | hge
    · exact hlt
    · simp[aVd hge]at h2
  · exact RelL.below cells cs off O' h3 b hb
 | .rw s n cells,c,O,H,b,hb=>by
  simp only[RelV]at H
  rcases H with⟨_,_,h1,_⟩ | ⟨b',cap,cs,t,O',_,h2,h3,rfl⟩
  · rw[h1]at hb;cases hb
  · rcases aUr.1 hb with rfl | hb
    · rcases aVA b h.size with hlt | hge
      · exact hlt
      · simp[aVd hge]at h2
    · exact RelL.below cells cs 0 O' h3 b hb
 | .agg cells,c,O,H,b,hb=>by
  simp only[RelV]at H
  obtain⟨cs,_,_,h3⟩:=H
  exact RelL.below cells cs 0 O h3 b hb
 | .tup vs,c,O,H,b,hb=>by
  simp only[RelV]at H
  obtain⟨cs,_,_,h3⟩:=H
  exact RelL.below vs cs 0 O h3 b hb
 | .any,c,O,H,b,hb=>by simp only[RelV]at H;rw[H]at hb;cases hb
 | .was v p,c,O,H,b,hb=>by simp only[RelV]at H;exact RelV.below p c O H.2 b hb
theorem RelL.below {h:Array Obj}{q:Bool}{β:Nat->Option (Option Nat)}:∀ (ps:List PV) (cs:Array Value) (i:Nat) (O:List Nat),RelL h q β ps cs i O->∀ b∈O,b<h.size
 | [],cs,i,O,H,b,hb=>by simp only[RelL]at H;rw[H]at hb;cases hb
 | p::ps,cs,i,O,H,b,hb=>by
  simp only[RelL]at H
  obtain⟨c,O1,O2,h1,h2,h3,rfl⟩:=H
  rcases aUz.1 hb with hb | hb
  · exact RelV.below p c O1 h2 b hb
  · exact RelL.below ps cs (i+1) O2 h3 b hb
end
theorem RelL.length {h:Array Obj}{q:Bool}{β:Nat->Option (Option Nat)}:∀ (ps:List PV) (cs:Array Value) (i:Nat) (O:List Nat),i<=cs.size->RelL h q β ps cs i O->i+ps.length<=cs.size
 | [],_,_,_,hi,_=>by simpa using hi
 | p::ps,cs,i,O,hi,H=>by
  simp only[RelL]at H
  obtain⟨c,O1,O2,h1,h2,h3,rfl⟩:=H
  have:i<cs.size:=by
   rcases aVA i cs.size with h | h
   · exact h
   · simp[aVd h]at h1
  have:=RelL.length ps cs (i+1) O2 this h3
  simp only[aUC];omega
theorem RelL.get {h:Array Obj}{q:Bool}{β:Nat->Option (Option Nat)}:∀ (ps:List PV) (cs:Array Value) (i:Nat) (O:List Nat),RelL h q β ps cs i O->∀ (k:Nat) p,ps[k]?=some p->∃ c O1,cs[i+k]?=some c/\(q=true->c.oneCell'=true)/\RelV h β p c O1/\(∀ b∈O1,b∈O)
 | [],_,_,_,_,k,p,hk=>by simp at hk
 | _::ps,cs,i,O,H,k,p,hk=>by
  simp only[RelL]at H
  obtain⟨c,O1,O2,h1,h2,h3,rfl⟩:=H
  cases k with
  | zero=>simp at hk;subst hk;exact⟨c,O1,h1.1,h1.2,h2,fun b hb=>by simp[hb]⟩
  | succ k =>
   simp at hk
   obtain⟨c',O',g1,g2,g3,g4⟩:=RelL.get ps cs (i+1) O2 h3 k p hk
   exact⟨c',O',by rw[<- g1];congr 1;omega,g2,g3,fun b hb=>by simp[g4 b hb]⟩
theorem RelL.append {h:Array Obj}{q:Bool}{β:Nat->Option (Option Nat)}:∀ (ps qs:List PV) (cs:Array Value) (i:Nat) (O:List Nat),RelL h q β (ps++qs) cs i O↔∃ O1 O2,RelL h q β ps cs i O1/\RelL h q β qs cs (i+ps.length) O2/\O=O1++O2
 | [],qs,cs,i,O=>by
  simp only[aUx,aVu,aVh,RelL]
  constructor
  · intro H;exact⟨[],O,rfl,H,rfl⟩
  · rintro⟨O1,O2,rfl,H,rfl⟩;exact H
 | p::ps,qs,cs,i,O=>by
  simp only[aUB,RelL,aUC]
  constructor
  · rintro⟨c,O1,O2,h1,h2,h3,rfl⟩
    obtain⟨O3,O4,g1,g2,rfl⟩:=(RelL.append ps qs cs (i+1) O2).1 h3
    exact⟨O1++O3,O4,⟨c,O1,O3,h1,h2,g1,rfl⟩,by rw[show i+(ps.length+1)=i+1+ps.length by omega];exact g2,by simp⟩
  · rintro⟨Oa,O4,⟨c,O1,O3,h1,h2,g1,rfl⟩,g2,rfl⟩
    refine⟨c,O1,O3++O4,h1,h2,(RelL.append ps qs cs (i+1) (O3++O4)).2 ⟨O3,O4,g1,?_,rfl⟩,by simp⟩
    rw[show i+1+ps.length=i+(ps.length+1)by omega];exact g2
theorem RelL.shift {h:Array Obj}{q:Bool}{β:Nat->Option (Option Nat)}:∀ (ps:List PV) (cs cs':Array Value) (i j:Nat) (O:List Nat),(∀ k,k<ps.length->cs'[j+k]?=cs[i+k]?)->RelL h q β ps cs i O->RelL h q β ps cs' j O
 | [],_,_,_,_,_,_,H=>by simp only[RelL]at H ⊢;exact H
 | p::ps,cs,cs',i,j,O,hk,H=>by
  simp only[RelL]at H ⊢
  obtain⟨c,O1,O2,h1,h2,h3,rfl⟩:=H
  refine⟨c,O1,O2,⟨by have:=hk 0 (by simp);simp at this;rw[this];exact h1.1,h1.2⟩,h2,RelL.shift ps cs cs' (i+1) (j+1) O2 (fun k hl=>?_) h3,rfl⟩
  have:=hk (k+1) (by simp;omega)
  rw[show j+1+k=j+(k+1)by omega,show i+1+k=i+(k+1)by omega];exact this
theorem RelL.drop {h:Array Obj}{q:Bool}{β:Nat->Option (Option Nat)}{ps:List PV}{cs:Array Value}{i:Nat}{O:List Nat}(H:RelL h q β ps cs i O)(k:Nat)(hk:k<=ps.length):∃ O2,RelL h q β (ps.drop k) cs (i+k) O2/\∃ O1,O=O1++O2:=by
 have e:ps=ps.take k++ps.drop k:=(aVs k ps).symm
 rw[e]at H
 obtain⟨O1,O2,_,h2,rfl⟩:=(RelL.append _ _ _ _ _).1 H
 rw[aVp,aWk hk]at h2
 exact⟨O2,h2,O1,rfl⟩
theorem RelL.take {h:Array Obj}{q:Bool}{β:Nat->Option (Option Nat)}{ps:List PV}{cs:Array Value}{i:Nat}{O:List Nat}(H:RelL h q β ps cs i O)(k:Nat):∃ O1,RelL h q β (ps.take k) cs i O1/\∃ O2,O=O1++O2:=by
 have e:ps=ps.take k++ps.drop k:=(aVs k ps).symm
 rw[e]at H
 obtain⟨O1,O2,h1,_,rfl⟩:=(RelL.append _ _ _ _ _).1 H
 exact⟨O1,h1,O2,rfl⟩
def Soft (p p':PV):Prop:=∀ (h:Array Obj) (β:Nat->Option (Option Nat)) (c:Value) (B:List Nat),RelV h β p c B->RelV h β p' c B
def SoftL (ps ps':List PV):Prop:=ps.length=ps'.length/\∀ (h:Array Obj) (q:Bool) (β:Nat->Option (Option Nat)) (cs:Array Value) (i:Nat) (B:List Nat),RelL h q β ps cs i B->RelL h q β ps' cs i B
theorem Soft.refl (p:PV):Soft p p:=fun _ _ _ _ h=>h
theorem SoftL.refl (ps:List PV):SoftL ps ps:=⟨rfl,fun _ _ _ _ _ _ h=>h⟩
theorem SoftL.nil:SoftL [] []:=SoftL.refl []
theorem SoftL.cons {p p':PV}{ps ps':List PV}(h1:Soft p p')(h2:SoftL ps ps'):SoftL (p::ps) (p'::ps'):=by
 refine⟨by simp[h2.1],fun h q β cs i B H=>?_⟩
 simp only[RelL]at H ⊢
 obtain⟨c,B1,B2,g1,g2,g3,e⟩:=H
 exact⟨c,B1,B2,g1,h1 _ _ _ _ g2,h2.2 _ _ _ _ _ _ g3,e⟩
theorem SoftL.app {a a' b b':List PV}(h1:SoftL a a')(h2:SoftL b b'):SoftL (a++b) (a'++b'):=by
 refine⟨by simp[h1.1,h2.1],fun h q β cs i B H=>?_⟩
 obtain⟨B1,B2,g1,g2,e⟩:=(RelL.append _ _ _ _ _).1 H
 exact(RelL.append _ _ _ _ _).2 ⟨B1,B2,h1.2 _ _ _ _ _ _ g1,by rw[<- h1.1];exact h2.2 _ _ _ _ _ _ g2,e⟩
theorem SoftL.flat {α:Type}{e e':α->List PV}(h:∀ y,SoftL (e y) (e' y)):∀ l:List α,SoftL (l.flatMap e) (l.flatMap e')
 | []=>SoftL.nil
 | y::r=>by rw[aVc,aVc];exact(h y).app (SoftL.flat h r)
theorem SoftL.empty {ps:List PV}(h:SoftL [] ps):ps=[]:=aUD.1 h.1.symm
theorem Soft.rw {s n:Nat}{cs cs':List PV}(h:SoftL cs cs'):Soft (.rw s n cs) (.sl n cs'):=by
 intro hp β c B H
 simp only[RelV]at H ⊢
 rcases H with⟨h1,h2,h3,h4⟩ | ⟨b,cap,cs,t,O',⟨h1,h2,_⟩,h3,h4,h5⟩
 · subst h2;exact .inl ⟨h1,h.empty,h3,none,0,h4⟩
 · exact .inr ⟨b,0,cap,cs,t,(0,0),O',⟨h1,h2⟩,h3,h.2 _ _ _ _ _ _ h4,h5⟩
theorem Soft.sl {n:Nat}{cs cs':List PV}(h:SoftL cs cs'):Soft (.sl n cs) (.sl n cs'):=by
 intro hp β c B H
 simp only[RelV]at H ⊢
 rcases H with⟨h1,h2,h3,h4⟩ | ⟨b,off,cap,cs,t,f,O',h1,h3,h4,h5⟩
 · subst h2;exact .inl ⟨h1,h.empty,h3,h4⟩
 · exact .inr ⟨b,off,cap,cs,t,f,O',h1,h3,h.2 _ _ _ _ _ _ h4,h5⟩
theorem Soft.agg {cs cs':List PV}(h:SoftL cs cs'):Soft (.agg cs) (.agg cs'):=by
 intro hp β c B H
 simp only[RelV]at H ⊢
 obtain⟨a,h1,h2,h3⟩:=H
 exact⟨a,h1,by rw[h2,h.1],h.2 _ _ _ _ _ _ h3⟩
inductive CV:PV->PV->Prop
 | refl (p:PV):CV p p
 | any (p:PV):CV p .any
 | nil:CV (.sc (.slice none 0 0)) (.sl 0 [])
def aW9:=@SoftL.cons
def aXa:=@Soft.refl
def aXf:=@SoftL.refl
def aXg:=@Soft.agg
def aXj:=@SoftL.nil
def aXl:=@Soft.rw
def aXr:=@RelL.keep
def aXt:=@RelV.keep
def aXA:=@RelV.below
def aXC:=@SoftL.flat
def aXE:=@RelL.append
def aXF:=@KeepB.dead
def aXG:=@RelL.shift
def aXS:=@RelL.length
/- The engine, part B: environments, what they say of a run's state, and statements whose order Go leaves open. -/
structure Slot where
 v:PV
 deep:Bool:=false
structure Ob where
 cells:List PV
 deep:Bool
 box:Bool
structure Env where
 s:List (Nat×Slot)
 o:List (Nat×Option Ob)
def lk:List (Nat×Slot)->Nat->Slot
 | [],_=>⟨.any,false⟩
 | (j,v)::r,k=>bif Nat.beq j k then v else lk r k
def lo:List (Nat×Option Ob)->Nat->Option Ob
 | [],_=>none
 | (j,v)::r,k=>bif Nat.beq j k then v else lo r k
def Env.app (E e:Env):Env:=⟨e.s++E.s,e.o++E.o⟩
theorem rJ (j k:Nat):Nat.beq j k=decide (j=k):=by
 by_cases h:j=k
 · subst h;simp
 · rw[aUt h]
   cases hb:Nat.beq j k with
   | false=>rfl
   | true=>exact absurd (aU0 hb) h
theorem gI (j:Nat)(v:Slot)(r:List (Nat×Slot))(k:Nat):lk ((j,v)::r) k=if j=k then v else lk r k:=by
 simp only[lk,rJ]
 by_cases h:j=k <;> simp[h]
theorem aT (j:Nat)(v:Option Ob)(r:List (Nat×Option Ob))(k:Nat):lo ((j,v)::r) k=if j=k then v else lo r k:=by
 simp only[lo,rJ]
 by_cases h:j=k <;> simp[h]
theorem mI (a b:List (Nat×Slot))(k:Nat)(h:k∈a.map (·.1)):lk (a++b) k=lk a k:=by
 induction a with
 | nil=>cases h
 | cons x r ih =>
  obtain⟨j,v⟩:=x
  rw[aUB,gI,gI]
  by_cases hj:j=k
  · simp[hj]
  · rw[aUq hj,aUq hj]
    refine ih ?_
    simp only[aUH,aUr]at h
    rcases h with h | h
    · exact absurd h.symm hj
    · exact h
theorem qD (a b:List (Nat×Slot))(k:Nat)(h:k∉a.map (·.1)):lk (a++b) k=lk b k:=by
 induction a with
 | nil=>rfl
 | cons x r ih =>
  obtain⟨j,v⟩:=x
  simp only[aUH,aUr,not_or]at h
  rw[aUB,gI,aUq (fun e=>h.1 e.symm)]
  exact ih h.2
theorem dG (a b:List (Nat×Option Ob))(k:Nat)(h:k∈a.map (·.1)):lo (a++b) k=lo a k:=by
 induction a with
 | nil=>cases h
 | cons x r ih =>
  obtain⟨j,v⟩:=x
  rw[aUB,aT,aT]
  by_cases hj:j=k
  · simp[hj]
  · rw[aUq hj,aUq hj]
    refine ih ?_
    simp only[aUH,aUr]at h
    rcases h with h | h
    · exact absurd h.symm hj
    · exact h
theorem bZ (a b:List (Nat×Option Ob))(k:Nat)(h:k∉a.map (·.1)):lo (a++b) k=lo b k:=by
 induction a with
 | nil=>rfl
 | cons x r ih =>
  obtain⟨j,v⟩:=x
  simp only[aUH,aUr,not_or]at h
  rw[aUB,aT,aUq (fun e=>h.1 e.symm)]
  exact ih h.2
inductive Own where
 | none
 | slot (k:Nat)
 | obj (l:Nat)
 | lab (l:Nat)
structure Ctx (P:Program)(N:Nat) where
 base:Nat
 ok:Nat->Prop
 io:Nat->Option Nat
 w0:World
 mine:Nat->Prop
 lent:Nat->Prop
def Ctx.nww {P:Program}{N:Nat}(Γ:Ctx P N)(b:Nat):Prop:=Γ.base<=b\/Γ.mine b
def Ctx.nw {P:Program}{N:Nat}(Γ:Ctx P N)(b:Nat):Prop:=Γ.nww b\/Γ.lent b
def gA (w:World)(b:Nat):Prop:=∃ cs t,w.heap[b]?=some (.cells cs t (0,0))
structure Kept {P:Program}{N:Nat}(Γ:Ctx P N)(w:World):Prop where
 os:w.os=Γ.w0.os
 output:w.output=Γ.w0.output
 tape:w.tape=Γ.w0.tape
 size:Γ.base<=w.heap.size
 old:∀ b,b<Γ.base->(∀ l,Γ.io l≠some b)->¬Γ.mine b->w.heap[b]?=Γ.w0.heap[b]?
 ios:∀ b,b<Γ.base->¬Γ.mine b->∀ cs t,Γ.w0.heap[b]?=some (.cells cs t (0,0))->∃ cs',w.heap[b]?=some (.cells cs' t (0,0))/\cs'.size=cs.size
def Im {P:Program}{N:Nat}(Γ:Ctx P N)(ow:Nat->Own)(w:World)(b:Nat):Prop:=b<w.heap.size/\(Γ.ok b\/Γ.nw b)/\∀ l,ow b≠.lab l
structure SimG {P:Program}{N:Nat}(Γ:Ctx P N)(ow:Nat->Own)(β:Nat->Option (Option Nat))(E:Env)(a:Act)(w:World):Prop where
 size:a.tmps.size=N
 defers:a.defers=[]
 kept:Kept Γ w
 slots:∀ k,∃ O,RelV w.heap β (lk E.s k).v (a.tmps.getD k undef) O/\(∀ b∈O,Im Γ ow w b)/\((lk E.s k).deep=true->O.Nodup/\∀ b∈O,ow b=.slot k/\gA w b)
 objs:∀ l ob,lo E.o l=some ob->∃ O,(∀ b∈O,Im Γ ow w b)/\(ob.deep=true->O.Nodup/\∀ b∈O,ow b=.obj l/\gA w b)/\
  ((β l=some none/\ob.cells=[]/\O=[])\/∃ b cs t,β l=some (some b)/\ow b=.lab l/\w.heap[b]?=some (.cells cs t (0,0))/\RelL w.heap true (if ob.box then β else dead) ob.cells cs 0 O)
 gone:∀ l,lo E.o l=none->β l=none
 own:∀ b,ow b≠.none->b<w.heap.size/\(Γ.nw b\/∃ l,ow b=.lab l/\Γ.io l=some b)
 ios:∀ l b,Γ.io l=some b->(lo E.o l).isSome=true->β l=some (some b)
 fresh:∀ l b,β l=some (some b)->Γ.io l=none->Γ.nww b
theorem SimG.congr {P:Program}{N:Nat}{Γ:Ctx P N}{ow:Nat->Own}{β:Nat->Option (Option Nat)}{E E':Env}{a:Act}{w:World}(hs:∀ k,lk E'.s k=lk E.s k)(ho:∀ l,lo E'.o l=lo E.o l)(h:SimG Γ ow β E a w):SimG Γ ow β E' a w :=
 { size:=h.size,defers:=h.defers,kept:=h.kept,slots:=fun k=>by rw[hs];exact h.slots k,objs:=fun l ob hl=>h.objs l ob (by rw[<- ho];exact hl),
   gone:=fun l hl=>h.gone l (by rw[<- ho];exact hl),own:=h.own,ios:=fun l b h1 h2=>h.ios l b h1 (by rw[<- ho];exact h2),fresh:=h.fresh }
def Sim {P:Program}{N:Nat}(Γ:Ctx P N)(E:Env)(a:Act)(w:World):Prop:=∃ ow β,SimG Γ ow β E a w
theorem Sim.congr {P:Program}{N:Nat}{Γ:Ctx P N}{E E':Env}{a:Act}{w:World}(hs:∀ k,lk E'.s k=lk E.s k)(ho:∀ l,lo E'.o l=lo E.o l):Sim Γ E a w->Sim Γ E' a w :=
 fun⟨ow,β,h⟩=>⟨ow,β,h.congr hs ho⟩
def OpT {P:Program}{N:Nat}(Γ:Ctx P N)(o:Oper)(F F':Env):Prop:=∀ a w,Sim Γ F a w->∀ (Q:Exit->Act->World->Prop),o.wp P a w (Sim Γ F') Q
def aKT {P:Program}{N:Nat}(Γ:Ctx P N)(ops:Array Oper)(i:Nat)(F F':Env):Prop:=∀ a w,Sim Γ F a w->∀ (Q:Exit->Act->World->Prop),wpOp P ops Q i (Sim Γ F') a w
mutual
def pE:PV->Bool
 | .sl _ _=>false
 | .iptr _=>false
 | .rw _ _ _=>false
 | .agg cells=>vY cells
 | .tup vs=>vY vs
 | .was _ p=>pE p
 | _=>true
def vY:List PV->Bool
 | []=>true
 | p::ps=>pE p&&vY ps
end
mutual
theorem yI {h:Array Obj}{β:Nat->Option (Option Nat)}:∀ (p:PV) {c:Value} {O:List Nat},pE p=true->RelV h β p c O->O=[]
 | .sc _,_,_,_,H=>by simp only[RelV]at H;exact H.2
 | .sl _ _,_,_,hp,_=>by simp[pE]at hp
 | .ref _ _ _ _,_,_,_,H=>by simp only[RelV]at H;exact H.1
 | .ptr _ _,_,_,_,H=>by simp only[RelV]at H;exact H.1
 | .iptr _,_,_,hp,_=>by simp[pE]at hp
 | .rw _ _ _,_,_,hp,_=>by simp[pE]at hp
 | .agg cells,_,_,hp,H=>by
  simp only[RelV]at H;simp only[pE]at hp
  obtain⟨cs,_,_,h3⟩:=H
  exact zM cells hp h3
 | .tup vs,_,_,hp,H=>by
  simp only[RelV]at H;simp only[pE]at hp
  obtain⟨cs,_,_,h3⟩:=H
  exact zM vs hp h3
 | .any,_,_,_,H=>by simp only[RelV]at H;exact H
 | .was _ p,_,_,hp,H=>by
  simp only[RelV]at H;simp only[pE]at hp
  exact yI p hp H.2
theorem zM {h:Array Obj}{q:Bool}{β:Nat->Option (Option Nat)}:∀ (ps:List PV) {cs:Array Value} {i:Nat} {O:List Nat},vY ps=true->RelL h q β ps cs i O->O=[]
 | [],_,_,_,_,H=>by simpa only[RelL]using H
 | p::ps,_,_,_,hp,H=>by
  simp only[vY,aUP]at hp
  simp only[RelL]at H
  obtain⟨c,O1,O2,_,h2,h3,rfl⟩:=H
  rw[yI p hp.1 h2,zM ps hp.2 h3];rfl
end
def aHX:Nat:=777777777
def aET (s:Slot):Bool:=s.deep||pE s.v
def aF5 (o:Ob):Bool:=o.deep||vY o.cells
def NoLab (F:Env)(d:Nat):Prop:=(∀ k,d∉(lk F.s k).v.labs)/\(∀ l ob,lo F.o l=some ob->ob.box=true->∀ p∈ob.cells,d∉p.labs)/\
 (d=aHX->(∀ k,aET (lk F.s k)=true)/\∀ l ob,lo F.o l=some ob->aF5 ob=true)
def Local {P:Program}{N:Nat}(Γ:Ctx P N)(o:Oper)(E e:Env)(rs ro nl:List Nat):Prop :=
 ∀ F:Env,(∀ k∈rs,lk F.s k=lk E.s k)->(∀ l∈ro,lo F.o l=lo E.o l)->(∀ d∈nl,NoLab F d)->OpT Γ o F (F.app e)
def uM {P:Program}{N:Nat}(Γ:Ctx P N)(ops:Array Oper)(i:Nat)(E e:Env)(rs ro nl:List Nat):Prop :=
 ∀ F:Env,(∀ k∈rs,lk F.s k=lk E.s k)->(∀ l∈ro,lo F.o l=lo E.o l)->(∀ d∈nl,NoLab F d)->aKT Γ ops i F (F.app e)
structure Item where
 e:Env
 rs:List Nat
 ro:List Nat
 nl:List Nat
theorem aR (a b:Nat):Nat.blt a b=true↔a<b:=by simp
theorem aA5 (a b:Nat):Nat.blt a b=decide (a<b):=by
 by_cases h:a<b
 · rw[aUu h];exact(aR a b).2 h
 · rw[aUt h]
   cases hb:Nat.blt a b with
   | false=>rfl
   | true=>exact absurd ((aR a b).1 hb) h
def zD (l:List Nat)(k:Nat):Bool:=match l with
 | []=>false
 | j::r=>bif Nat.beq j k then true else zD r k
theorem lD (l:List Nat)(k:Nat):zD l k=true↔k∈l:=by
 induction l with
 | nil=>simp[zD]
 | cons j r ih =>
  simp only[zD,rJ,aUr]
  by_cases h:j=k
  · simp[h]
  · simp[h,ih];intro e;exact absurd e.symm h
def aHc {α:Type}(p:α->Bool):List α->Bool
 | []=>false
 | x::r=>bif p x then true else aHc p r
theorem aAD {α:Type}(p:α->Bool)(l:List α):aHc p l=true↔∃ x∈l,p x=true:=by
 induction l with
 | nil=>simp[aHc]
 | cons x r ih =>
  cases h:p x <;> simp[aHc,h,ih]
def aMO (d:Nat)(ls:List Nat):Bool:=zD ls d
def aFS (s:List (Nat×Slot))(d:Nat):Bool:=aHc (fun p=>aMO d p.2.v.labs||(Nat.beq d 777777777&&!(aET p.2))) s
def xJ:List (Nat×Option Ob)->Nat->Bool
 | [],_=>false
 | (_,some ob)::r,d=>((bif ob.box then aHc (fun p=>aMO d p.labs) ob.cells else false)||(Nat.beq d 777777777&&!(aF5 ob)))||xJ r d
 | (_,none)::r,d=>xJ r d
def uQ (e:Env)(d:Nat):Bool:=aFS e.s d||xJ e.o d
def zE (x y:Item):Bool :=
 aHc (fun p=>zD y.rs p.1||zD (y.e.s.map (·.1)) p.1) x.e.s||aHc (fun p=>zD y.ro p.1||zD (y.e.o.map (·.1)) p.1) x.e.o||aHc (fun d=>uQ y.e d) x.nl
theorem aIa (d:Nat)(ls:List Nat):aMO d ls=true↔d∈ls:=lD ls d
theorem aLd {e:Env}{d k:Nat}{v:Slot}(hm:(k,v)∈e.s)(hl:d∈v.v.labs):uQ e d=true:=by
 unfold uQ aFS
 rw[aVg];left
 rw[aAD];exact⟨_,hm,by rw[aVg];exact .inl ((aIa _ _).2 hl)⟩
theorem aIJ {e:Env}{k:Nat}{v:Slot}(hm:(k,v)∈e.s)(hl:aET v=false):uQ e aHX=true:=by
 unfold uQ aFS
 rw[aVg];left
 rw[aAD];exact⟨_,hm,by rw[aVg];right;simp[hl,aHX]⟩
theorem aIK {e:Env}{l:Nat}{ob:Ob}(hm:(l,some ob)∈e.o)(hl:aF5 ob=false):uQ e aHX=true:=by
 unfold uQ
 rw[aVg];right
 have:∀ o:List (Nat×Option Ob),(l,some ob)∈o->xJ o aHX=true:=by
  intro o
  induction o with
  | nil=>intro h;cases h
  | cons x r ih =>
   intro h
   rcases aUr.1 h with rfl | h'
   · simp[xJ,hl,aHX]
   · clear h;have h:=h';obtain⟨k,ob'⟩:=x
     cases ob' with
     | none=>simp only[xJ];exact ih h
     | some ob'=>simp only[xJ,aVg];exact .inr (ih h)
 exact this e.o hm
theorem aLe {e:Env}{d l:Nat}{ob:Ob}(hm:(l,some ob)∈e.o)(hb:ob.box=true){p:PV}(hp:p∈ob.cells)(hl:d∈p.labs):uQ e d=true:=by
 unfold uQ
 rw[aVg];right
 have:∀ o:List (Nat×Option Ob),(l,some ob)∈o->xJ o d=true:=by
  intro o
  induction o with
  | nil=>intro h;cases h
  | cons x r ih =>
   intro h
   rcases aUr.1 h with rfl | h'
   · simp only[xJ,hb,aW6,aVg];left;left
     rw[aAD];exact⟨p,hp,(aIa _ _).2 hl⟩
   · clear h;have h:=h';obtain⟨k,ob'⟩:=x
     cases ob' with
     | none=>simp only[xJ];exact ih h
     | some ob'=>simp only[xJ,aVg];exact .inr (ih h)
 exact this e.o hm
theorem aI8 {s:List (Nat×Slot)}{k:Nat}(h:(lk s k).v≠.any):(k,lk s k)∈s:=by
 induction s with
 | nil=>simp[lk]at h
 | cons x r ih =>
  obtain⟨j,v⟩:=x
  rw[gI]at h ⊢
  by_cases hj:j=k
  · subst hj;simp
  · rw[aUq hj]at h ⊢;exact aU3 _ (ih h)
theorem aI7 {s:List (Nat×Option Ob)}{k:Nat}{ob:Ob}(h:lo s k=some ob):(k,some ob)∈s:=by
 induction s with
 | nil=>simp[lo]at h
 | cons x r ih =>
  obtain⟨j,v⟩:=x
  rw[aT]at h
  by_cases hj:j=k
  · subst hj;rw[aUs rfl]at h;subst h;simp
  · rw[aUq hj]at h;exact aU3 _ (ih h)
theorem NoLab.of_says {E:Env}{d:Nat}(h:uQ E d=false):NoLab E d:=by
 refine⟨fun k hk=>?_,fun l ob hl hb p hp hk=>?_,fun hd=>⟨fun k=>?_,fun l ob hl=>?_⟩⟩
 · have:(lk E.s k).v≠.any:=by intro e;rw[e]at hk;simp[PV.labs]at hk
   rw[aLd (aI8 this) hk]at h;cases h
 · rw[aLe (aI7 hl) hb hp hk]at h;cases h
 · cases hq:aET (lk E.s k)with
   | true=>rfl
   | false =>
    have:(lk E.s k).v≠.any:=by intro e;simp[aET,e,pE]at hq
    rw[hd,aIJ (aI8 this) hq]at h;cases h
 · cases hq:aF5 ob with
   | true=>rfl
   | false=>rw[hd,aIK (aI7 hl) hq]at h;cases h
def aBK (acc:List Nat)(o:Oper):Nat:=o.after.toList.foldl (fun s e=>if Region.binds .any e then s ||| 2 ^ e.on ||| acc.getD e.on 0 else s) 0
def aAE:List Oper->List Nat->List Nat
 | [],acc=>acc
 | o::r,acc=>aAE r (acc++[aBK acc o])
def aD4 (m:Nat)(x:Item):List Item->Nat->Bool
 | [],_=>true
 | y::r,j=>(bif zE x y||zE y x then m.testBit j else true)&&aD4 m x r (j+1)
def yY (masks:List Nat)(all:List Item):List Item->Nat->Bool
 | [],_=>true
 | x::r,i=>aD4 (masks.getD i 0) x (all.take i) 0&&yY masks all r (i+1)
def uL:List Oper->Nat->Bool
 | [],_=>true
 | o::r,i=>(o.after.toList.all fun e=>!Region.binds .any e||Nat.blt e.on i)&&uL r (i+1)
theorem aCW {m:Nat}{x:Item}:∀ {l:List Item} {j:Nat},aD4 m x l j=true->∀ k y,l[k]?=some y->(zE x y=true\/zE y x=true)->m.testBit (j+k)=true
 | [],_,_,k,y,hk,_=>by simp at hk
 | z::r,j,h,k,y,hk,hh=>by
  simp only[aD4,aUP]at h
  cases k with
  | zero =>
   simp at hk;subst hk
   have:(zE x z||zE z x)=true:=by simpa using hh
   rw[this]at h;simpa using h.1
  | succ k =>
   have:=aCW h.2 k y (by simpa using hk) hh
   rw[<- this];congr 1;omega
theorem aB3 {masks:List Nat}{all:List Item}:∀ {l:List Item} {i:Nat},yY masks all l i=true->∀ k x,l[k]?=some x->∀ j y,j<i+k->all[j]?=some y->(zE x y=true\/zE y x=true)->(masks.getD (i+k) 0).testBit j=true
 | [],_,_,k,x,hk=>by simp at hk
 | z::r,i,h,k,x,hk=>by
  intro j y hj hy hh
  simp only[yY,aUP]at h
  cases k with
  | zero =>
   simp at hk;subst hk
   have:=aCW h.1 j y (by rw[aWc];simp at hj;simp[hj,hy]) hh
   simpa using this
  | succ k =>
   have:=aB3 h.2 k x (by simpa using hk) j y (by omega) hy hh
   rw[<- this];congr 2;omega
theorem aD2:∀ {l:List Oper} {i:Nat},uL l i=true->∀ k o,l[k]?=some o->∀ e∈o.after,Region.binds .any e=true->e.on<i+k
 | [],_,_,k,o,hk=>by simp at hk
 | z::r,i,h,k,o,hk=>by
  intro e he hb
  simp only[uL,aUP]at h
  cases k with
  | zero =>
   simp at hk;subst hk
   have:=List.all_eq_true.1 h.1 e (by simpa using he)
   simp only[hb,aVj,Bool.false_or]at this
   exact(by simpa using(aR _ _).1 this)
  | succ k =>
   have:=aD2 h.2 k o (by simpa using hk) e he hb
   omega
theorem aJ7 {acc:List Nat}{o:Oper}{j:Nat}(h:(aBK acc o).testBit j=true):∃ e∈o.after,Region.binds .any e=true/\(e.on=j\/(acc.getD e.on 0).testBit j=true):=by
 unfold aBK at h
 have key:∀ (l:List Edge) (s:Nat),(l.foldl (fun s e=>if Region.binds .any e then s ||| 2 ^ e.on ||| acc.getD e.on 0 else s) s).testBit j=true->s.testBit j=true\/∃ e∈l,Region.binds .any e=true/\(e.on=j\/(acc.getD e.on 0).testBit j=true):=by
  intro l
  induction l with
  | nil=>intro s hs;exact .inl hs
  | cons e r ih =>
   intro s hs
   simp only[aVw]at hs
   rcases ih _ hs with h1 | ⟨e',he',h2⟩
   · by_cases hb:Region.binds .any e=true
     · rw[aUs hb]at h1
       simp only[Nat.testBit_or,aVg]at h1
       rcases h1 with(h1 | h1) | h1
       · exact .inl h1
       · refine .inr ⟨e,by simp,hb,.inl ?_⟩
         rw[Nat.testBit_two_pow]at h1
         simpa using h1
       · exact .inr ⟨e,by simp,hb,.inr h1⟩
     · rw[aUq hb]at h1;exact .inl h1
   · exact .inr ⟨e',by simp[he'],h2⟩
 rcases key _ _ h with h | ⟨e,he,h⟩
 · simp at h
 · exact⟨e,by simpa using he,h⟩
theorem aKI:∀ (r:List Oper) (acc:List Nat),∃ t,aAE r acc=acc++t
 | [],acc=>⟨[],by simp[aAE]⟩
 | o::r,acc=>by
  obtain⟨t,ht⟩:=aKI r (acc++[aBK acc o])
  exact⟨aBK acc o::t,by simp[aAE,ht]⟩
theorem aIo:∀ (r:List Oper) (acc:List Nat) (i:Nat) (o:Oper),r[i]?=some o->(aAE r acc)[acc.length+i]?=some (aBK ((aAE r acc).take (acc.length+i)) o)
 | [],_,i,o,h=>by simp at h
 | z::r,acc,i,o,h=>by
  cases i with
  | zero =>
   simp at h;subst h
   obtain⟨t,ht⟩:=aKI r (acc++[aBK acc z])
   simp[aAE,ht]
  | succ i =>
   have:=aIo r (acc++[aBK acc z]) i o (by simpa using h)
   simp only[aUF,aUC,aVu]at this
   rw[show acc.length+1+i=acc.length+(i+1)by omega]at this
   simpa [aAE]using this
theorem aLY {ops:List Oper}{i:Nat}{o:Oper}(h:ops[i]?=some o){j:Nat}(hj:((aAE ops []).getD i 0).testBit j=true) :
 ∃ e∈o.after,Region.binds .any e=true/\(e.on=j\/((aAE ops []).getD e.on 0).testBit j=true):=by
 have h1:=aIo ops [] i o h
 simp only[aVu,aUR]at h1
 rw[aUU,h1]at hj
 obtain⟨e,he,hb,h2⟩:=aJ7 hj
 refine⟨e,he,hb,h2.imp id fun h3=>?_⟩
 rw[aUU,aWc]at h3
 by_cases hlt:e.on<i
 · rw[aUs hlt]at h3;rw[aUU];exact h3
 · rw[aUq hlt]at h3;simp at h3
def pt (D:Nat->Bool):List Item->Nat->Env->Env
 | [],_,E=>E
 | x::r,k,E=>pt D r (k+1) (if D k then E.app x.e else E)
theorem aHV {D D':Nat->Bool}{k:Nat}:∀ (l:List Item) (i:Nat) (E E':Env),(∀ j x,l[j]?=some x->k∈x.e.s.map (·.1)->D (i+j)=D' (i+j))->lk E.s k=lk E'.s k->lk (pt D l i E).s k=lk (pt D' l i E').s k
 | [],_,_,_,_,h=>h
 | x::r,i,E,E',hD,h=>by
  refine aHV r (i+1) _ _ (fun j y hy hk=>?_) ?_
  · have:=hD (j+1) y (by simpa using hy) hk
    rw[show i+1+j=i+(j+1)by omega];exact this
  · have h0:=hD 0 x (by simp)
    simp only[aVh]at h0
    by_cases hk:k∈x.e.s.map (·.1)
    · rw[h0 hk]
      cases D' i with
      | true=>simp only[aUK,Env.app];rw[mI _ _ _ hk,mI _ _ _ hk]
      | false=>simpa using h
    · have e1:∀ (b:Bool) (E:Env),lk (if b=true then E.app x.e else E).s k=lk E.s k:=by
       intro b E;cases b
       · simp
       · simp only[aUK,Env.app];exact qD _ _ _ hk
      rw[e1,e1];exact h
theorem aHU {D D':Nat->Bool}{k:Nat}:∀ (l:List Item) (i:Nat) (E E':Env),(∀ j x,l[j]?=some x->k∈x.e.o.map (·.1)->D (i+j)=D' (i+j))->lo E.o k=lo E'.o k->lo (pt D l i E).o k=lo (pt D' l i E').o k
 | [],_,_,_,_,h=>h
 | x::r,i,E,E',hD,h=>by
  refine aHU r (i+1) _ _ (fun j y hy hk=>?_) ?_
  · have:=hD (j+1) y (by simpa using hy) hk
    rw[show i+1+j=i+(j+1)by omega];exact this
  · have h0:=hD 0 x (by simp)
    simp only[aVh]at h0
    by_cases hk:k∈x.e.o.map (·.1)
    · rw[h0 hk]
      cases D' i with
      | true=>simp only[aUK,Env.app];rw[dG _ _ _ hk,dG _ _ _ hk]
      | false=>simpa using h
    · have e1:∀ (b:Bool) (E:Env),lo (if b=true then E.app x.e else E).o k=lo E.o k:=by
       intro b E;cases b
       · simp
       · simp only[aUK,Env.app];exact bZ _ _ _ hk
      rw[e1,e1];exact h
theorem aIV {D:Nat->Bool}{k:Nat}:∀ (l:List Item) (i:Nat) (E:Env) (j:Nat) (x:Item),l[j]?=some x->D (i+j)=true->k∈x.e.s.map (·.1)->(∀ j' y,j<j'->l[j']?=some y->k∈y.e.s.map (·.1)->D (i+j')=false)->lk (pt D l i E).s k=lk x.e.s k
 | [],_,_,j,x,h,_,_,_=>by simp at h
 | z::r,i,E,j,x,h,hD,hk,hl=>by
  cases j with
  | zero =>
   simp at h;subst h
   simp only[aVh]at hD
   simp only[pt,hD,aUK]
   have:=aHV (D:=D) (D':=fun _=>false) (k:=k) r (i+1) (E.app z.e) (E.app z.e) (fun j y hy hk'=>by have:=hl (j+1) y (by omega) (by simpa using hy) hk';rw[show i+1+j=i+(j+1)by omega,this]) rfl
   rw[this]
   have e2:∀ (l:List Item) (i:Nat) (E:Env),pt (fun _=>false) l i E=E:=by
    intro l;induction l with
    | nil=>intro i E;rfl
    | cons a r ih=>intro i E;simp[pt,ih]
   rw[e2];exact mI _ _ _ hk
  | succ j =>
   simp only[pt]
   exact aIV r (i+1) _ j x (by simpa using h) (by rw[show i+1+j=i+(j+1)by omega];exact hD) hk (fun j' y hj' hy hk'=>by have:=hl (j'+1) y (by omega) (by simpa using hy) hk';rw[show i+1+j'=i+(j'+1)by omega];exact this)
theorem aF7 {D:Nat->Bool}{k:Nat}:∀ (l:List Item) (i:Nat) (E:Env) (j:Nat) (x:Item),l[j]?=some x->D (i+j)=true->k∈x.e.o.map (·.1)->(∀ j' y,j<j'->l[j']?=some y->k∈y.e.o.map (·.1)->D (i+j')=false)->lo (pt D l i E).o k=lo x.e.o k
 | [],_,_,j,x,h,_,_,_=>by simp at h
 | z::r,i,E,j,x,h,hD,hk,hl=>by
  cases j with
  | zero =>
   simp at h;subst h
   simp only[aVh]at hD
   simp only[pt,hD,aUK]
   have:=aHU (D:=D) (D':=fun _=>false) (k:=k) r (i+1) (E.app z.e) (E.app z.e) (fun j y hy hk'=>by have:=hl (j+1) y (by omega) (by simpa using hy) hk';rw[show i+1+j=i+(j+1)by omega,this]) rfl
   rw[this]
   have e2:∀ (l:List Item) (i:Nat) (E:Env),pt (fun _=>false) l i E=E:=by
    intro l;induction l with
    | nil=>intro i E;rfl
    | cons a r ih=>intro i E;simp[pt,ih]
   rw[e2];exact dG _ _ _ hk
  | succ j =>
   simp only[pt]
   exact aF7 r (i+1) _ j x (by simpa using h) (by rw[show i+1+j=i+(j+1)by omega];exact hD) hk (fun j' y hj' hy hk'=>by have:=hl (j'+1) y (by omega) (by simpa using hy) hk';rw[show i+1+j'=i+(j'+1)by omega];exact this)
theorem aPe {x y:Item}{k:Nat}(hx:k∈x.e.s.map (·.1))(hy:k∈y.rs\/k∈y.e.s.map (·.1)):zE x y=true:=by
 obtain⟨p,hp,rfl⟩:=aUJ.1 hx
 unfold zE
 rw[aVg,aVg];left;left
 rw[aAD]
 exact⟨p,hp,by rw[aVg,lD,lD];exact hy⟩
theorem aPf {x y:Item}{k:Nat}(hx:k∈x.e.o.map (·.1))(hy:k∈y.ro\/k∈y.e.o.map (·.1)):zE x y=true:=by
 obtain⟨p,hp,rfl⟩:=aUJ.1 hx
 unfold zE
 rw[aVg,aVg];left;right
 rw[aAD]
 exact⟨p,hp,by rw[aVg,lD,lD];exact hy⟩
theorem aSj {x y:Item}{d:Nat}(hx:d∈x.nl)(hy:uQ y.e d=true):zE x y=true:=by
 unfold zE
 rw[aVg];right
 rw[aAD];exact⟨d,hx,hy⟩
theorem aOA {D:Nat->Bool}:∀ (l:List Item) (i:Nat) (E:Env),(∀ x∈(pt D l i E).s,x∈E.s\/∃ j y,l[j]?=some y/\D (i+j)=true/\x∈y.e.s)/\(∀ x∈(pt D l i E).o,x∈E.o\/∃ j y,l[j]?=some y/\D (i+j)=true/\x∈y.e.o)
 | [],_,_=>⟨fun _ h=>.inl h,fun _ h=>.inl h⟩
 | z::r,i,E=>by
  obtain⟨h1,h2⟩:=aOA (D:=D) r (i+1) (if D i then E.app z.e else E)
  refine⟨fun x hx=>?_,fun x hx=>?_⟩
  · rcases h1 x hx with h | ⟨j,y,hj,hD,hm⟩
    · cases hDi:D i with
      | true =>
       rw[hDi]at h
       simp only[aUK,Env.app,aUz]at h
       rcases h with h | h
       · exact .inr ⟨0,z,by simp,by simpa using hDi,h⟩
       · exact .inl h
      | false=>rw[hDi]at h;exact .inl (by simpa using h)
    · exact .inr ⟨j+1,y,by simpa using hj,by rw[show i+(j+1)=i+1+j by omega];exact hD,hm⟩
  · rcases h2 x hx with h | ⟨j,y,hj,hD,hm⟩
    · cases hDi:D i with
      | true =>
       rw[hDi]at h
       simp only[aUK,Env.app,aUz]at h
       rcases h with h | h
       · exact .inr ⟨0,z,by simp,by simpa using hDi,h⟩
       · exact .inl h
      | false=>rw[hDi]at h;exact .inl (by simpa using h)
    · exact .inr ⟨j+1,y,by simpa using hj,by rw[show i+(j+1)=i+1+j by omega];exact hD,hm⟩
theorem aJP {D:Nat->Bool}{items:List Item}{E0:Env}{d:Nat}(h0:uQ E0 d=false)(h:∀ j y,items[j]?=some y->D j=true->uQ y.e d=false):NoLab (pt D items 0 E0) d:=by
 obtain⟨m1,m2⟩:=aOA (D:=D) items 0 E0
 refine⟨fun k hk=>?_,fun l ob hl hb p hp hk=>?_,fun hd=>⟨fun k=>?_,fun l ob hl=>?_⟩⟩
 · have hne:(lk (pt D items 0 E0).s k).v≠.any:=by intro e;rw[e]at hk;simp[PV.labs]at hk
   rcases m1 _ (aI8 hne)with hm | ⟨j,y,hj,hD,hm⟩
   · rw[aLd hm hk]at h0;cases h0
   · have:=h j y hj (by simpa using hD);rw[aLd hm hk]at this;cases this
 · rcases m2 _ (aI7 hl)with hm | ⟨j,y,hj,hD,hm⟩
   · rw[aLe hm hb hp hk]at h0;cases h0
   · have:=h j y hj (by simpa using hD);rw[aLe hm hb hp hk]at this;cases this
 · cases hq:aET (lk (pt D items 0 E0).s k)with
   | true=>rfl
   | false =>
    have hne:(lk (pt D items 0 E0).s k).v≠.any:=by intro e;simp[aET,e,pE]at hq
    rcases m1 _ (aI8 hne)with hm | ⟨j,y,hj,hD,hm⟩
    · rw[hd,aIJ hm hq]at h0;cases h0
    · have:=h j y hj (by simpa using hD);rw[hd,aIJ hm hq]at this;cases this
 · cases hq:aF5 ob with
   | true=>rfl
   | false =>
    rcases m2 _ (aI7 hl)with hm | ⟨j,y,hj,hD,hm⟩
    · rw[hd,aIK hm hq]at h0;cases h0
    · have:=h j y hj (by simpa using hD);rw[hd,aIK hm hq]at this;cases this
def aIv {P:Program}{N:Nat}(Γ:Ctx P N)(ops:Array Oper)(items:List Item)(E0:Env):Prop :=
 ∀ i x,items[i]?=some x->uM Γ ops i (pt (fun j=>Nat.blt j i) items 0 E0) x.e x.rs x.ro x.nl/\∀ d∈x.nl,uQ E0 d=false/\∀ j y,j<i->items[j]?=some y->uQ y.e d=false
theorem aLf {P:Program}{N:Nat}{Γ:Ctx P N}{ops:Array Oper}{items:List Item}{E0:Env}{Q:Exit->Act->World->Prop}
 (hlen:items.length=ops.size) (hch:aIv Γ ops items E0) (hdep:yY (aAE ops.toList []) items items 0=true) (hed:uL ops.toList 0=true)
 (hQ:∀ a w,Sim Γ (pt (fun _=>true) items 0 E0) a w->Q .normal a w) :
 ∀ (fuel:Nat) (listed:Array Bool) (a:Act) (w:World),listed.size=ops.size->((List.range ops.size).filter fun j=>!listed.getD j false).length<=fuel->
  (∀ i j,listed.getD i false=true->((aAE ops.toList []).getD i 0).testBit j=true->listed.getD j false=true)->
  Sim Γ (pt (fun j=>listed.getD j false) items 0 E0) a w->wpAny P .any ops Q fuel listed a w:=by
 have hend:∀ (listed:Array Bool) (a:Act) (w:World),listed.size=ops.size->Region.ready .any ops listed=[]->Sim Γ (pt (fun j=>listed.getD j false) items 0 E0) a w->Q .normal a w:=by
  intro listed a w hsz hr hs
  have hall:∀ i,i<ops.size->listed.getD i false=true:=by
   intro i
   induction i using Nat.strongRecOn with
   | _ i ih =>
    intro hi
    cases hx:listed.getD i false with
    | true=>rfl
    | false =>
     exfalso
     have hm:i∈Region.ready .any ops listed:=by
      rw[mem_ready]
      have ho:ops[i]?=some ops[i]:=aWs hi
      refine⟨?_,ops[i],ho,fun e he hb=>?_⟩
      · simp only[aUV]at hx ⊢
        rw[aWs (by omega)]at hx ⊢;simpa using hx
      · have hlt:=aD2 hed i ops[i] (by simp) e he hb
        rw[aUR]at hlt
        exact ih e.on hlt (by omega)
     rw[hr]at hm;cases hm
  refine hQ a w (hs.congr (fun k=>?_) (fun l=>?_))
  · refine aHV items 0 E0 E0 (fun j x hx _=>?_) rfl
    have:j<ops.size:=by rw[<- hlen];exact(aVf.1 hx).1
    simp only[aUR];rw[hall j this]
  · refine aHU items 0 E0 E0 (fun j x hx _=>?_) rfl
    have:j<ops.size:=by rw[<- hlen];exact(aVf.1 hx).1
    simp only[aUR];rw[hall j this]
 intro fuel
 induction fuel with
 | zero =>
  intro listed a w hsz hc _ hs
  have hr:Region.ready .any ops listed=[]:=by
   rw[aWa]
   intro i hi
   obtain⟨h1,o,ho,_⟩:=mem_ready.1 hi
   have hi':i<ops.size:=(aV3.1 ho).1
   have:i∈(List.range ops.size).filter fun j=>!listed.getD j false:=by
    rw[aUy]
    refine⟨aVH.2 hi',?_⟩
    simp only[aUV]at h1 ⊢
    rw[aWs (by omega)]at h1 ⊢;simpa using h1
   rw[aUD.1 (Nat.le_zero.1 hc)]at this;cases this
  exact⟨hr,hend listed a w hsz hr hs⟩
 | succ fuel ih =>
  intro listed a w hsz hc hcl hs
  refine⟨fun hr=>hend listed a w hsz hr hs,fun i hi=>?_⟩
  obtain⟨h1,o,ho,hedges⟩:=mem_ready.1 hi
  have hi':i<ops.size:=(aV3.1 ho).1
  have hun:listed.getD i false=false:=by
   simp only[aUV]at h1 ⊢
   rw[aWs (by omega)]at h1 ⊢;simpa using h1
  obtain⟨x,hx⟩:∃ x,items[i]?=some x:=⟨items[i]'(by omega),by simp⟩
  have hol:ops.toList[i]?=some o:=by simpa using ho
  have hanc:∀ j,((aAE ops.toList []).getD i 0).testBit j=true->listed.getD j false=true:=by
   intro j hj
   obtain⟨e,he,hb,h2⟩:=aLY hol hj
   have h3:=hedges e he hb
   rcases h2 with rfl | h2
   · exact h3
   · exact hcl _ j h3 h2
  have hpast:∀ j y,j<i->items[j]?=some y->(zE x y=true\/zE y x=true)->listed.getD j false=true:=by
   intro j y hj hy hh
   refine hanc j ?_
   have:=aB3 hdep i x hx j y (by omega) hy hh
   simpa using this
  have hfut:∀ j y,i<j->items[j]?=some y->(zE x y=true\/zE y x=true)->listed.getD j false=false:=by
   intro j y hj hy hh
   cases hd:listed.getD j false with
   | false=>rfl
   | true =>
    have:=aB3 hdep j y hy i x (by omega) hx hh.symm
    simp only[aUR]at this
    rw[hcl j i hd this]at hun;cases hun
  have hsel:∀ j y,items[j]?=some y->(zE x y=true\/zE y x=true)->j≠i->listed.getD j false=Nat.blt j i:=by
   intro j y hy hh hne
   rcases aVA j i with h | h
   · rw[hpast j y h hy hh,(aR _ _).2 h]
   · have hlt:i<j:=by omega
     rw[hfut j y hlt hy hh]
     cases hbb:Nat.blt j i with
     | false=>rfl
     | true=>have:=(aR _ _).1 hbb;omega
  have hself:∀ j,j=i->listed.getD j false=Nat.blt j i:=by
   rintro j rfl
   rw[hun]
   cases hbb:Nat.blt j j with
   | false=>rfl
   | true=>have:=(aR _ _).1 hbb;omega
  have hst:=(hch i x hx).1 (pt (fun j=>listed.getD j false) items 0 E0)
   (fun k hk=>aHV items 0 E0 E0 (fun j y hy hky=>by
    simp only[aUR]
    by_cases hji:j=i
    · exact hself j hji
    · exact hsel j y hy (.inr (aPe hky (.inl hk))) hji) rfl)
   (fun l hl=>aHU items 0 E0 E0 (fun j y hy hky=>by
    simp only[aUR]
    by_cases hji:j=i
    · exact hself j hji
    · exact hsel j y hy (.inr (aPf hky (.inl hl))) hji) rfl)
   (fun d hd=>aJP ((hch i x hx).2 d hd).1 (fun j y hy hD=>by
    rcases Nat.lt_trichotomy j i with hlt | heq | hgt
    · exact((hch i x hx).2 d hd).2 j y hlt hy
    · subst heq;rw[hun]at hD;cases hD
    · cases hsy:uQ y.e d with
      | false=>rfl
      | true=>rw[hfut j y hgt hy (.inl (aSj hd hsy))]at hD;cases hD))
  refine wpOp_mono (fun a' w' hs'=>?_) (hst a w hs Q)
  have hset:∀ j,(listed.setIfInBounds i true).getD j false=(bif Nat.beq i j then true else listed.getD j false):=by
   intro j
   simp only[aUV,rJ]
   by_cases hij:i=j
   · subst hij;simp[hsz,hi']
   · simp[aWV hij,hij]
  refine ih (listed.setIfInBounds i true) a' w' (by simpa using hsz) ?_ ?_ ?_
  · have hlt:((List.range ops.size).filter fun j=>!(listed.setIfInBounds i true).getD j false).length<((List.range ops.size).filter fun j=>!listed.getD j false).length:=by
     have e:((List.range ops.size).filter fun j=>!(listed.setIfInBounds i true).getD j false)=((List.range ops.size).filter fun j=>!listed.getD j false).filter (fun j=>!Nat.beq i j):=by
      rw[aVY]
      congr 1;funext j;rw[hset]
      cases Nat.beq i j <;> simp
     rw[e,List.length_filter_lt_length_iff_exists]
     refine⟨i,?_,by simp⟩
     rw[aUy];exact⟨aVH.2 hi',by rw[hun];rfl⟩
    omega
  · intro i' j h2 h3
    rw[hset]at h2 ⊢
    have:listed.getD j false=true:=by
     cases hb:Nat.beq i i' with
     | true =>
      have:=aU0 hb
      subst this
      exact hanc j h3
     | false=>rw[hb]at h2;exact hcl i' j h2 h3
    rw[this];cases Nat.beq i j <;> rfl
  · refine hs'.congr (fun k=>?_) (fun l=>?_)
    · by_cases hk:k∈x.e.s.map (·.1)
      · simp only[Env.app]
        rw[mI _ _ _ hk]
        refine aIV items 0 E0 i x hx ?_ hk (fun j' y hj' hy hky=>?_)
        · rw[hset];simp
        · rw[aUR,hset,hfut j' y hj' hy (.inl (aPe hk (.inr hky)))]
          rw[rJ,aUt (by omega)];rfl
      · simp only[Env.app]
        rw[qD _ _ _ hk]
        refine aHV items 0 E0 E0 (fun j y hy hky=>?_) rfl
        rw[aUR,hset,rJ]
        by_cases hij:i=j
        · subst hij;rw[hx]at hy;cases hy;exact absurd hky hk
        · rw[aUt hij];rfl
    · by_cases hk:l∈x.e.o.map (·.1)
      · simp only[Env.app]
        rw[dG _ _ _ hk]
        refine aF7 items 0 E0 i x hx ?_ hk (fun j' y hj' hy hky=>?_)
        · rw[hset];simp
        · rw[aUR,hset,hfut j' y hj' hy (.inl (aPf hk (.inr hky)))]
          rw[rJ,aUt (by omega)];rfl
      · simp only[Env.app]
        rw[bZ _ _ _ hk]
        refine aHU items 0 E0 E0 (fun j y hy hky=>?_) rfl
        rw[aUR,hset,rJ]
        by_cases hij:i=j
        · subst hij;rw[hx]at hy;cases hy;exact absurd hky hk
        · rw[aUt hij];rfl
/- The engine, part C: code, calls, results. -/
open Go.RowKit (Below)
def aDg (o:Oper):List (Nat×Slot):=match o.dst with
 | some d=>[(d,⟨.sc (.tuple #[]),false⟩)]
 | none=>[]
def nZ (E:Env):List Nat->Bool
 | []=>true
 | d::r=>bif uQ E d then false else nZ E r
theorem aCM {E:Env}:∀ {l:List Nat},nZ E l=true->∀ d∈l,uQ E d=false
 | [],_,d,hd=>by cases hd
 | x::r,h,d,hd=>by
  simp only[nZ]at h
  cases hx:uQ E x with
  | true=>rw[hx]at h;cases h
  | false =>
   rw[hx]at h
   rcases aUr.1 hd with rfl | hd
   · exact hx
   · exact aCM h d hd
theorem aOj {E e:Env}{d:Nat}(h:uQ (E.app e) d=false):uQ E d=false/\uQ e d=false:=by
 have hs:∀ (a b:List (Nat×Slot)),aFS (a++b) d=(aFS a d||aFS b d):=by
  intro a b;unfold aFS
  induction a with
  | nil=>simp[aHc]
  | cons x r ih=>simp only[aUB,aHc,ih];cases(aMO d x.2.v.labs||Nat.beq d 777777777&&!aET x.2) <;> simp
 have ho:∀ (a b:List (Nat×Option Ob)),xJ (a++b) d=(xJ a d||xJ b d):=by
  intro a b
  induction a with
  | nil=>simp[xJ]
  | cons x r ih =>
   obtain⟨k,ob⟩:=x
   cases ob <;> simp[xJ,ih,Bool.or_assoc]
 simp only[uQ,Env.app,hs,ho,Bool.or_eq_false_iff]at h ⊢
 exact⟨⟨h.1.2,h.2.2⟩,h.1.1,h.2.1⟩
def lkq:List (Nat×Slot)->Nat->Option Slot
 | [],_=>none
 | (j,v)::r,k=>bif Nat.beq j k then some v else lkq r k
theorem gH {s:List (Nat×Slot)}{k:Nat}{v:Slot}(h:lkq s k=some v):lk s k=v:=by
 induction s with
 | nil=>cases h
 | cons x r ih =>
  obtain⟨j,u⟩:=x
  simp only[lkq,rJ]at h
  rw[gI]
  by_cases hj:j=k
  · rw[aUs hj];simp[hj]at h;exact h
  · rw[aUq hj];simp[hj]at h;exact ih h
def loq:List (Nat×Option Ob)->Nat->Option Ob
 | [],_=>none
 | (j,v)::r,k=>bif Nat.beq j k then v else loq r k
theorem dA (s:List (Nat×Option Ob))(k:Nat):loq s k=lo s k:=by
 induction s with
 | nil=>rfl
 | cons x r ih=>obtain⟨j,v⟩:=x;simp only[loq,lo,ih]
def aIh:List Oper->Nat->Option Nat
 | [],_=>none
 | o::_,0=>o.dst
 | _::r,k+1=>aIh r k
theorem aKw:∀ (l:List Oper) (j:Nat),aIh l j=(l[j]?).bind (·.dst)
 | [],j=>by simp[aIh]
 | o::r,0=>by simp[aIh]
 | o::r,j+1=>by simp[aIh,aKw r j]
def aLR (S:List (Nat×Slot))(d:Nat):Option (Option Bool):=match lkq S d with
 | some ⟨.sc (.bool b),_⟩=>some (some b)
 | some ⟨.sc (.tuple _),_⟩=>some none
 | _=>none
def gw (b:Bool):Option Bool->Bool
 | some b'=>b' == b
 | none=>false
def vb:Value->Option Bool
 | .bool b=>some b
 | _=>none
def gd (N:Nat)(ops:List Oper)(S:List (Nat×Slot))(want:Bool):Option (Nat×Bool)->Option (List Nat)
 | none=>bif want then some []else none
 | some (j,b)=>match aIh ops j with
  | some d=>bif Nat.blt d N then(match aLR S d with
   | some b'=>bif gw b b' == want then some [d]else none
   | none=>none)else none
  | none=>none
theorem aNX {S:List (Nat×Slot)}{d:Nat}{b:Option Bool}(h:aLR S d=some b):∃ v dp,lk S d=⟨.sc v,dp⟩/\b=vb v:=by
 unfold aLR at h
 split at h
 · rename_i b' dp hq;cases h;exact⟨_,dp,gH hq,rfl⟩
 · rename_i c dp hq;cases h;exact⟨_,dp,gH hq,rfl⟩
 · cases h
theorem aMS {N:Nat}{ops:List Oper}{S:List (Nat×Slot)}{want:Bool}{j:Nat}{b:Bool}{gs:List Nat}(h:gd N ops S want (some (j,b))=some gs) :
 ∃ d v dp,(ops[j]?).bind (·.dst)=some d/\d<N/\lk S d=⟨.sc v,dp⟩/\gw b (vb v)=want/\gs=[d]:=by
 simp only[gd,aKw]at h
 split at h
 · rename_i d hd
   cases hn:Nat.blt d N with
   | false=>rw[hn]at h;cases h
   | true =>
    rw[hn]at h
    simp only[aW6]at h
    split at h
    · rename_i b' hb
      obtain⟨v,dp,hk,rfl⟩:=aNX hb
      cases hx:gw b (vb v) == want with
      | false=>rw[hx]at h;cases h
      | true=>rw[hx]at h;cases h;exact⟨d,v,dp,hd,(aR _ _).1 hn,hk,by simpa using hx,rfl⟩
    · cases h
 · cases h
inductive Run {P:Program} {N:Nat} (Γ:Ctx P N) (ops:List Oper) (K:List Item->Env->Prop):List Oper->List Item->Env->Prop
 | done {acc:List Item} {E:Env}:K acc.reverse E->Run Γ ops K [] acc E
 | op {o:Oper} {rest:List Oper} {acc:List Item} {S s:List (Nat×Slot)} {O u:List (Nat×Option Ob)} {rs ro nl gs:List Nat}:Local Γ o ⟨S,O⟩ ⟨s,u⟩ rs ro nl->gd N ops S true o.guard=some gs->nZ ⟨S,O⟩ nl=true->
  Run Γ ops K rest (⟨⟨s,u⟩,gs++rs,ro,nl⟩::acc) ⟨s++S,u++O⟩->Run Γ ops K (o::rest) acc ⟨S,O⟩
 | skip {o:Oper} {rest:List Oper} {acc:List Item} {S:List (Nat×Slot)} {O:List (Nat×Option Ob)} {gs:List Nat}:gd N ops S false o.guard=some gs->
  Run Γ ops K rest (⟨⟨aDg o,[]⟩,gs,[],[]⟩::acc) ⟨aDg o++S,O⟩->Run Γ ops K (o::rest) acc ⟨S,O⟩
theorem Sim.val {P:Program}{N:Nat}{Γ:Ctx P N}{F:Env}{a:Act}{w:World}{d:Nat}{v:Value}{dp:Bool}(h:Sim Γ F a w)(hd:d<N)(hk:lk F.s d=⟨.sc v,dp⟩):a.tmps[d]?=some v:=by
 obtain⟨ow,β,h⟩:=h
 obtain⟨O,h1,_⟩:=h.slots d
 rw[hk]at h1
 simp only[RelV]at h1
 have hlt:d<a.tmps.size:=by rw[h.size];exact hd
 rw[aWs hlt]
 have:=h1.1
 simp[Array.getD,hlt]at this
 rw[this]
theorem aHH {ops:Array Oper}{a:Act}{o:Oper}{j d:Nat}{b:Bool}{v:Value}(hg:o.guard=some (j,b))(hj:(ops.toList[j]?).bind (·.dst)=some d)(ht:a.tmps[d]?=some v):Region.wanted o (yielded ops a.tmps)=gw b (vb v):=by
 have hj':(ops[j]?).bind (·.dst)=some d:=by simpa using hj
 have:yielded ops a.tmps j=(vb v):=by
  unfold yielded
  rw[hj']
  simp[ht]
  cases v <;> rfl
 unfold Region.wanted
 rw[hg]
 simp only[this]
 cases vb v with
 | none=>cases b <;> rfl
 | some b'=>cases b <;> cases b' <;> rfl
theorem aOw (t:Array Value)(d:Nat):(t.setIfInBounds d undef)[d]?.getD undef=undef:=by
 rw[Array.getElem?_setIfInBounds]
 simp only[aUK]
 split <;> rfl
theorem aIU {P:Program}{N:Nat}{Γ:Ctx P N}{F:Env}{a:Act}{w:World}{o:Oper}(h:Sim Γ F a w):Sim Γ (F.app ⟨aDg o,[]⟩) (a.put o.dst undef) w:=by
 obtain⟨ow,β,h⟩:=h
 unfold aDg Env.app
 cases hd:o.dst with
 | none=>exact⟨ow,β,by simpa [Act.put]using h⟩
 | some d =>
  refine⟨ow,β,{ size:=by simp[Act.put,h.size],defers:=by simp[Act.put,h.defers],kept:=h.kept,slots:=fun k=>?_,objs:=by simpa using h.objs,gone:=by simpa using h.gone,own:=h.own,ios:=by simpa using h.ios,fresh:=h.fresh }⟩
  simp only[aUB,aUx,gI,Act.put]
  by_cases hk:d=k
  · subst hk
    refine⟨[],?_,by simp,by simp⟩
    simp only[RelV,aUK,aUV]
    refine⟨?_,trivial⟩
    exact aOw a.tmps d
  · rw[aUq hk]
    obtain⟨O,h1,h2,h3⟩:=h.slots k
    refine⟨O,?_,h2,h3⟩
    have e:(a.tmps.setIfInBounds d undef).getD k undef=a.tmps.getD k undef:=by
     simp only[aUV,aWV hk]
    rw[e];exact h1
theorem Local.at {P:Program}{N:Nat}{Γ:Ctx P N}{ops:Array Oper}{i:Nat}{o:Oper}{E e:Env}{rs ro nl:List Nat}(ho:ops[i]?=some o)(hg:o.guard=none)(h:Local Γ o E e rs ro nl):uM Γ ops i E e rs ro nl:=by
 intro F hs hl hnl a w hsim Q
 unfold wpOp
 simp only[ho]
 have:Region.wanted o (yielded ops a.tmps)=true:=by unfold Region.wanted;rw[hg]
 rw[aUs this]
 exact .inl (h F hs hl hnl a w hsim Q)
theorem Local.atG {P:Program}{N:Nat}{Γ:Ctx P N}{ops:Array Oper}{i:Nat}{o:Oper}{E e:Env}{rs ro nl:List Nat}{j d:Nat}{b dp:Bool}{v:Value}(ho:ops[i]?=some o)(hg:o.guard=some (j,b))(hj:(ops.toList[j]?).bind (·.dst)=some d)(hn:d<N)
 (hk:lk E.s d=⟨.sc v,dp⟩) (hv:gw b (vb v)=true) (h:Local Γ o E e rs ro nl):uM Γ ops i E e (d::rs) ro nl:=by
 intro F hs hl hnl a w hsim Q
 unfold wpOp
 simp only[ho]
 have hb:=hsim.val hn (by rw[hs d (by simp)];exact hk)
 rw[aUs (by rw[aHH hg hj hb];exact hv)]
 exact .inl (h F (fun k hk=>hs k (by simp[hk])) hl hnl a w hsim Q)
theorem aQq {P:Program}{N:Nat}{Γ:Ctx P N}{ops:Array Oper}{i:Nat}{o:Oper}{E:Env}{j d:Nat}{b dp:Bool}{v:Value}(ho:ops[i]?=some o)(hg:o.guard=some (j,b))(hj:(ops.toList[j]?).bind (·.dst)=some d)(hn:d<N)
 (hk:lk E.s d=⟨.sc v,dp⟩) (hbb:gw b (vb v)=false):uM Γ ops i E ⟨aDg o,[]⟩ [d] [] []:=by
 intro F hs hl hnl a w hsim Q
 unfold wpOp
 simp only[ho]
 have hb:=hsim.val hn (by rw[hs d (by simp)];exact hk)
 rw[aUq (by rw[aHH hg hj hb,hbb];simp)]
 exact aIU hsim
theorem aHw (l:List Item)(x:Item):∀ (i:Nat) (E:Env) (D:Nat->Bool),D (i+l.length)=true->pt D (l++[x]) i E=(pt D l i E).app x.e:=by
 induction l with
 | nil=>intro i E D h;simp at h;simp[pt,h]
 | cons y r ih=>intro i E D h;simp only[aUB,pt];exact ih _ _ _ (by rw[<- h];congr 1;simp;omega)
theorem aF8 {D D':Nat->Bool}:∀ (l:List Item) (i:Nat) (E:Env),(∀ j,j<l.length->D (i+j)=D' (i+j))->pt D l i E=pt D' l i E
 | [],_,_,_=>rfl
 | x::r,i,E,h=>by
  simp only[pt]
  have h0:=h 0 (by simp)
  simp only[aVh]at h0
  rw[h0]
  exact aF8 r (i+1) _ (fun j hj=>by have:=h (j+1) (by simp;omega);rw[show i+1+j=i+(j+1)by omega];exact this)
theorem aHT (l m:List Item)(i:Nat)(E:Env)(D:Nat->Bool)(h:∀ j,l.length<=j->D (i+j)=false):pt D (l++m) i E=pt D l i E:=by
 induction l generalizing i E with
 | nil =>
  simp only[aUx,pt]
  induction m generalizing i E with
  | nil=>rfl
  | cons x r ih =>
   have h0:=h 0 (by simp)
   simp only[aVh]at h0
   simp only[pt,h0,aUv,aUT]
   exact ih (i+1) E (fun j hj=>by have:=h (j+1) (by simp);rw[show i+1+j=i+(j+1)by omega];exact this)
 | cons x r ih =>
  simp only[aUB,pt]
  exact ih (i+1) _ (fun j hj=>by have:=h (j+1) (by simp;omega);rw[show i+1+j=i+(j+1)by omega];exact this)
theorem aNm {P:Program}{N:Nat}{Γ:Ctx P N}{ops:Array Oper}{K:List Item->Env->Prop}{E0:Env}{rest:List Oper}{acc:List Item}{E:Env}(h:Run Γ ops.toList K rest acc E) :
 ∀ pre,ops.toList=pre++rest->acc.length=pre.length->aIv Γ ops acc.reverse E0->E=pt (fun _=>true) acc.reverse 0 E0->∃ items,items.length=ops.size/\aIv Γ ops items E0/\K items (pt (fun _=>true) items 0 E0):=by
 have keyChain:∀ {acc:List Item} {x:Item} {E:Env},aIv Γ ops acc.reverse E0->E=pt (fun _=>true) acc.reverse 0 E0->uM Γ ops acc.length E x.e x.rs x.ro x.nl->(∀ d∈x.nl,uQ E d=false)->aIv Γ ops (x::acc).reverse E0:=by
  intro acc x E hc hE hl hsay i y hy
  rw[List.reverse_cons]at hy ⊢
  rcases Nat.lt_trichotomy i acc.length with hlt | heq | hgt
  · rw[aVm (by simpa using hlt)]at hy
    rw[aHT _ _ _ _ _ (fun j hj=>by
     cases hb:Nat.blt (0+j) i with
     | false=>rfl
     | true=>have:=(aR _ _).1 hb;simp at hj;omega)]
    refine⟨(hc i y hy).1,fun d hd=>⟨((hc i y hy).2 d hd).1,fun j z hj hz=>?_⟩⟩
    rw[aVm (by simp;omega)]at hz
    exact((hc i y hy).2 d hd).2 j z hj hz
  · subst heq
    rw[aVl (by simp)]at hy
    simp at hy;subst hy
    rw[aHT _ _ _ _ _ (fun j hj=>by
     cases hb:Nat.blt (0+j) acc.length with
     | false=>rfl
     | true=>have:=(aR _ _).1 hb;simp at hj;omega)]
    rw[aF8 (D':=fun _=>true) acc.reverse 0 E0 (fun j hj=>by simp at hj;simp[hj])]
    rw[<- hE]
    refine⟨hl,fun d hd=>?_⟩
    have h1:=hsay d hd
    rw[hE]at h1
    have key:∀ (l:List Item) (i:Nat) (E:Env),uQ (pt (fun _=>true) l i E) d=false->uQ E d=false/\∀ y∈l,uQ y.e d=false:=by
     intro l
     induction l with
     | nil=>intro i E h;exact⟨h,by simp⟩
     | cons z r ih =>
      intro i E h
      simp only[pt,aUK]at h
      obtain⟨g1,g2⟩:=ih _ _ h
      obtain⟨g3,g4⟩:=aOj g1
      refine⟨g3,fun y hy=>?_⟩
      rcases aUr.1 hy with rfl | hy
      · exact g4
      · exact g2 y hy
    obtain⟨g1,g2⟩:=key _ _ _ h1
    refine⟨g1,fun j z hj hz=>g2 z ?_⟩
    rw[aVm (by simpa using hj)]at hz
    exact List.mem_of_getElem? hz
  · rw[aV8 (by simp;omega)]at hy;cases hy
 have keyE:∀ {acc:List Item} {x:Item} {E:Env},E=pt (fun _=>true) acc.reverse 0 E0->E.app x.e=pt (fun _=>true) (x::acc).reverse 0 E0:=by
  intro acc x E hE
  rw[List.reverse_cons,aHw _ _ _ _ _ rfl,hE]
 have hat:∀ {pre:List Oper} {o:Oper} {rest:List Oper} {n:Nat},ops.toList=pre++o::rest->n=pre.length->ops[n]?=some o:=by
  intro pre o rest n h1 h2
  have:ops.toList[n]?=some o:=by rw[h1,h2];simp
  simpa using this
 induction h with
 | done hK =>
  intro pre h1 h2 h3 h4
  refine⟨_,?_,h3,?_⟩
  · have:=congrArg List.length h1;simp at this;rw[List.length_reverse,h2,<- this]
  · rw[<- h4];exact hK
 | @op o rest acc S s O u rs ro nl gs hl hg hns _ ih =>
  intro pre h1 h2 h3 h4
  have hat':uM Γ ops acc.length ⟨S,O⟩ ⟨s,u⟩ (gs++rs) ro nl:=by
   cases hgd:o.guard with
   | none =>
    rw[hgd]at hg;simp only[gd,aW6]at hg;cases hg
    exact Local.at (hat h1 h2) hgd hl
   | some x =>
    obtain⟨j,b⟩:=x
    rw[hgd]at hg
    obtain⟨d,v,dp,e1,e2,e3,e4,rfl⟩:=aMS hg
    exact Local.atG (hat h1 h2) hgd e1 e2 e3 e4 hl
  exact ih (pre++[o]) (by simp[h1]) (by simp[h2]) (keyChain (x:=⟨⟨s,u⟩,gs++rs,ro,nl⟩) h3 h4 hat' (aCM hns)) (keyE (x:=⟨⟨s,u⟩,gs++rs,ro,nl⟩) h4)
 | @skip o rest acc S O gs hg _ ih =>
  intro pre h1 h2 h3 h4
  cases hgd:o.guard with
  | none=>rw[hgd]at hg;simp only[gd,cond_false]at hg;cases hg
  | some x =>
   obtain⟨j,b⟩:=x
   rw[hgd]at hg
   obtain⟨d,v,dp,e1,e2,e3,e4,rfl⟩:=aMS hg
   exact ih (pre++[o]) (by simp[h1]) (by simp[h2]) (keyChain (x:=⟨⟨aDg o,[]⟩,[d],[],[]⟩) h3 h4 (aQq (hat h1 h2) hgd e1 e2 e3 e4) (by simp)) (keyE (x:=⟨⟨aDg o,[]⟩,[d],[],[]⟩) h4)
def CodeT {P:Program}{N:Nat}(Γ:Ctx P N)(c:Code)(E:Env)(Q:Exit->Env->Prop):Prop:=∀ a w,Sim Γ E a w->c.wp P (fun x a' w'=>∃ E',Sim Γ E' a' w'/\Q x E') a w
def Ent {P:Program}{N:Nat}(Γ:Ctx P N)(E E':Env):Prop:=∀ a w,Sim Γ E a w->Sim Γ E' a w
section code
variable {P:Program}{N:Nat}{Γ:Ctx P N}{E:Env}{Q:Exit->Env->Prop}
theorem aG6 {ops:Array Oper}{items:List Item}{E0:Env}{R:Exit->Act->World->Prop}(hlen:items.length=ops.size)(hc:aIv Γ ops items E0)(hR:∀ a w,Sim Γ (pt (fun _=>true) items 0 E0) a w->R .normal a w) :
 ∀ (m i:Nat) (a:Act) (w:World),i+m=ops.size->Sim Γ (pt (fun j=>Nat.blt j i) items 0 E0) a w->wpOps P ops R (List.range' i m) a w
 | 0,i,a,w,hm,hs=>by
  simp only[List.range'_zero,wpOps]
  refine hR a w ?_
  rw[aF8 (D':=fun j=>Nat.blt j i) items 0 E0 (fun j hj=>by simp;omega)]
  exact hs
 | m+1,i,a,w,hm,hs=>by
  rw[List.range'_succ,wpOps_cons]
  obtain⟨x,hx⟩:∃ x,items[i]?=some x:=⟨items[i]'(by omega),by simp⟩
  refine wpOp_mono (fun a' w' hs'=>aG6 hlen hc hR m (i+1) a' w' (by omega) ?_) ((hc i x hx).1 _ (fun _ _=>rfl) (fun _ _=>rfl) (fun d hd=>aJP ((hc i x hx).2 d hd).1 (fun j y hy hD=>((hc i x hx).2 d hd).2 j y ((aR _ _).1 hD) hy)) a w hs R)
  refine hs'.congr (fun k=>?_) (fun l=>?_)
  · by_cases hk:k∈x.e.s.map (·.1)
    · simp only[Env.app];rw[mI _ _ _ hk]
      refine aIV items 0 E0 i x hx (by simp) hk (fun j' y hj' _ _=>?_)
      rw[aA5];exact aUt (by omega)
    · simp only[Env.app];rw[qD _ _ _ hk]
      refine aHV items 0 E0 E0 (fun j y hy hky=>?_) rfl
      by_cases hij:j=i
      · subst hij;rw[hx]at hy;cases hy;exact absurd hky hk
      · rw[aA5,aA5];congr 1;exact propext ⟨fun h=>by omega,fun h=>by omega⟩
  · by_cases hk:l∈x.e.o.map (·.1)
    · simp only[Env.app];rw[dG _ _ _ hk]
      refine aF7 items 0 E0 i x hx (by simp) hk (fun j' y hj' _ _=>?_)
      rw[aA5];exact aUt (by omega)
    · simp only[Env.app];rw[bZ _ _ _ hk]
      refine aHU items 0 E0 E0 (fun j y hy hky=>?_) rfl
      by_cases hij:j=i
      · subst hij;rw[hx]at hy;cases hy;exact absurd hky hk
      · rw[aA5,aA5];congr 1;exact propext ⟨fun h=>by omega,fun h=>by omega⟩
theorem aMq (items:List Item)(i:Nat)(E0:Env)(D:Nat->Bool)(h:∀ j,D j=false):pt D items i E0=E0:=by
 induction items generalizing i E0 with
 | nil=>rfl
 | cons x r ih=>simp[pt,h,ih]
theorem CodeT.region {id:Nat}{l:List Oper}{draw:Bool}(hm:draw=true->P.follows .mixedOrders=true)
 (h:Run Γ l (fun items E'=>(draw=true->yY (aAE l []) items items 0=true/\uL l 0=true)/\Q .normal E') l [] E):CodeT Γ (.region id l.toArray draw) E Q:=by
 intro a w hs
 obtain⟨items,h1,h2,h3,h4⟩:=aNm (ops:=l.toArray) (E0:=E) h [] rfl rfl (by intro i x hx;simp at hx) (by simp[pt])
 cases draw with
 | false =>
  refine wp_region ?_
  rw[List.range_eq_range']
  refine aG6 h1 h2 (fun a w hs=>⟨_,hs,h4⟩) _ 0 a w (by simp) ?_
  rw[aMq _ _ _ _ (fun j=>by rw[aA5];exact aUt (by omega))];exact hs
 | true =>
  refine wp_region_any (hm rfl) ?_
  refine aLf h1 h2 (h3 rfl).1 (h3 rfl).2 (fun a w hs=>⟨_,hs,h4⟩) _ _ _ _ (by simp) ?_ ?_ ?_
  · exact aUE (aWp _ _) (by simp)
  · intro i j hi
    simp[aUV,Array.getElem?_replicate]at hi
    split at hi <;> simp at hi
  · rw[aMq _ _ _ _ (fun j=>by
     simp[aUV,Array.getElem?_replicate]
     split <;> simp)]
    obtain⟨ow,β,hs⟩:=hs
    exact⟨ow,β,{ size:=hs.size,defers:=hs.defers,kept:=⟨hs.kept.os,hs.kept.output,hs.kept.tape,hs.kept.size,hs.kept.old,hs.kept.ios⟩,slots:=hs.slots,objs:=hs.objs,gone:=hs.gone,own:=hs.own,ios:=hs.ios,fresh:=hs.fresh }⟩
theorem CodeT.mono {c:Code}{Q':Exit->Env->Prop}(h:CodeT Γ c E Q)(hq:∀ x E,Q x E->Q' x E):CodeT Γ c E Q' :=
 fun a w hs=>wp_mono (h a w hs) fun _ _ _ ⟨E',h1,h2⟩=>⟨E',h1,hq _ _ h2⟩
theorem CodeT.weak {c:Code}{E':Env}(he:Ent Γ E E')(h:CodeT Γ c E' Q):CodeT Γ c E Q:=fun a w hs=>h a w (he a w hs)
theorem CodeT.skip (h:Q .normal E):CodeT Γ .skip E Q:=fun _ _ hs=>wp_skip ⟨E,hs,h⟩
theorem CodeT.exit {id:Nat}(h:Q (.exit id) E):CodeT Γ (.exit id) E Q:=fun _ _ hs=>wp_exit ⟨E,hs,h⟩
theorem CodeT.ret (h:Q .ret E):CodeT Γ .ret E Q:=fun _ _ hs=>wp_ret ⟨E,hs,h⟩
def xV (K:Env->Prop)(Q:Exit->Env->Prop):Exit->Env->Prop
 | .normal,E=>K E
 | x,E=>Q x E
theorem CodeT.seq {x y:Code}(h:CodeT Γ x E (xV (fun E'=>CodeT Γ y E' Q) Q)):CodeT Γ (.seq x y) E Q:=by
 intro a w hs
 refine wp_seq (wp_mono (h a w hs) fun e a' w' ⟨E',h1,h2⟩=>?_)
 cases e with
 | normal=>exact h2 a' w' h1
 | _=>exact⟨E',h1,h2⟩
def pK (id:Nat)(Q:Exit->Env->Prop):Exit->Env->Prop
 | .exit id',E=>bif Nat.beq id' id then Q .normal E else Q (.exit id') E
 | x,E=>Q x E
theorem CodeT.block {id:Nat}{c:Code}(h:CodeT Γ c E (pK id Q)):CodeT Γ (.block id c) E Q:=by
 intro a w hs
 refine wp_block (wp_mono (h a w hs) fun e a' w' ⟨E',h1,h2⟩=>?_)
 cases e with
 | exit id' =>
  simp only[Exit.inBlock]
  simp only[pK,rJ]at h2
  by_cases hid:id'=id
  · rw[aUs hid];simp[hid]at h2;exact⟨E',h1,h2⟩
  · rw[aUq hid];simp[hid]at h2;exact⟨E',h1,h2⟩
 | _=>exact⟨E',h1,h2⟩
theorem Sim.eval_bool {a:Act}{w:World}{t:Nat}{b dp:Bool}(hs:Sim Γ E a w)(hk:lk E.s t=⟨.sc (.bool b),dp⟩):a.eval (.tmp t)=.bool b:=by
 obtain⟨ow,β,hs⟩:=hs
 obtain⟨O,h1,_⟩:=hs.slots t
 rw[hk]at h1
 simp only[RelV]at h1
 exact h1.1
theorem CodeT.cond {t:Nat}{x y:Code}{b dp:Bool}(hk:lk E.s t=⟨.sc (.bool b),dp⟩)(h1:b=true->CodeT Γ x E Q)(h2:b=false->CodeT Γ y E Q):CodeT Γ (.cond (.tmp t) x y) E Q:=by
 intro a w hs
 exact wp_cond_split (hs.eval_bool hk) (fun h=>h1 h a w hs) (fun h=>h2 h a w hs)
def aIs {P:Program}{N:Nat}(Γ:Ctx P N)(I:Nat->Env->Prop)(n:Nat)(Q:Exit->Env->Prop):Exit->Env->Prop
 | .normal,E=>∃ m E',m<n/\Ent Γ E E'/\I m E'
 | x,E=>Q x E
theorem CodeT.loop {c:Code}(I:Nat->Env->Prop)(n:Nat)(E0:Env)(he:Ent Γ E E0)(h0:I n E0)(hr:∀ m E,I m E->CodeT Γ c E (aIs Γ I m Q)):CodeT Γ (.loop c) E Q:=by
 intro a w hs
 have hs:=he a w hs
 intro b k cs
 have main:∀ n E a w,I n E->Sim Γ E a w->∃ e a' w',(∃ E',Sim Γ E' a' w'/\Q e E')/\Arrives P (lone (b.at a (.code c::.inLoop c::k)) cs w) b k cs e a' w':=by
  intro n
  induction n using Nat.strongRecOn with
  | _ n ih =>
   intro E a w hI hs
   obtain⟨e,a₁,w₁,⟨E',hs',hq⟩,harr⟩:=hr n E hI a w hs b (.inLoop c::k) cs
   cases e with
   | normal =>
    obtain⟨m,E'',hlt,hent,hI'⟩:=hq
    obtain⟨e₂,a₂,w₂,hq₂,harr₂⟩:=ih m hlt E'' a₁ w₁ hI' (hent _ _ hs')
    exact⟨e₂,a₂,w₂,hq₂,.of_steps (Steps.trans harr (.one step_inLoop)) harr₂⟩
   | exit id=>exact⟨_,a₁,w₁,⟨E',hs',hq⟩,.pass (x:=.inLoop c) rfl (fun _ _=>.inl (by simp)) harr⟩
   | goto l=>exact⟨_,a₁,w₁,⟨E',hs',hq⟩,.pass (x:=.inLoop c) rfl (fun _ _=>.inl (by simp)) harr⟩
   | ret=>exact⟨_,a₁,w₁,⟨E',hs',hq⟩,.pass (x:=.inLoop c) rfl (fun _ _=>.inl (by simp)) harr⟩
   | panic ch=>exact⟨_,a₁,w₁,⟨E',hs',hq⟩,.pass (x:=.inLoop c) rfl (fun _ _=>.inl (by simp)) harr⟩
   | outgrown=>exact⟨_,a₁,w₁,⟨E',hs',hq⟩,.pass (x:=.inLoop c) rfl (fun _ _=>.inl (by simp)) harr⟩
 obtain⟨e,a',w',hq,harr⟩:=main n E0 a w h0 hs
 exact⟨e,a',w',hq,.of_steps (.one step_loop) harr⟩
end code
def aXb:=@Run.op
def aXn:=@CodeT.weak
/- The engine, part D: how a state changes: a slot is written, a world grows, a block is laid, a cell of an own block is stored. -/
open Go.RowKit (Below)
section
variable {P:Program}{N:Nat}{Γ:Ctx P N}{ow:Nat->Own}{β:Nat->Option (Option Nat)}{E:Env}{a:Act}{w:World}
theorem bE {o:Oper}{F F':Env}(h:∀ a w,Sim Γ F a w->∃ c w',(execOp a.eval o).run P w=.ok (.value c) w'/\Sim Γ F' (a.put o.dst c) w'):OpT Γ o F F':=by
 intro a w hs Q
 obtain⟨c,w',h1,h2⟩:=h a w hs
 unfold Oper.wp
 rw[h1]
 exact h2
theorem aEV {o:Oper}{F F':Env}(h:∀ a w,Sim Γ F a w->∃ w',(execOp a.eval o).run P w=.ok .skip w'/\Sim Γ F' (a.put o.dst undef) w'):OpT Γ o F F':=by
 intro a w hs Q
 obtain⟨w',h1,h2⟩:=h a w hs
 unfold Oper.wp
 rw[h1]
 exact h2
theorem SimG.block_lt (h:SimG Γ ow β E a w){l b:Nat}(hl:β l=some (some b)):b<w.heap.size:=by
 cases ho:lo E.o l with
 | none=>rw[h.gone l ho]at hl;cases hl
 | some ob =>
  obtain⟨O,_,_,h1⟩:=h.objs l ob ho
  rcases h1 with⟨h1,_⟩ | ⟨b',cs,t,h1,_,h3,_⟩
  · rw[h1]at hl;cases hl
  · rw[h1]at hl;cases hl
    rcases aVA b w.heap.size with h | h
    · exact h
    · simp[aVd h]at h3
theorem SimG.grow {w':World}(h:SimG Γ ow β E a w)(hb:Below w.heap.size w w'):SimG Γ ow β E a w':=by
 have hβ:∀ l,KeepB w.heap w'.heap β β l:=by
  intro l ob hl
  refine⟨hl,fun b hob cs t hc=>⟨cs,?_,rfl⟩⟩
  subst hob
  rw[hb.block b (h.block_lt hl)];exact hc
 have hIm:∀ b,Im Γ ow w b->Im Γ ow w' b:=fun b ⟨h1,h2,h3⟩=>⟨aUN h1 hb.size,h2,h3⟩
 have hFree:∀ b,b<w.heap.size->gA w b->gA w' b:=fun b hlt ⟨cs,t,hc⟩=>⟨cs,t,by rw[hb.block b hlt];exact hc⟩
 refine { size:=h.size,defers:=h.defers,kept:=?_,slots:=fun k=>?_,objs:=fun l ob hl=>?_,gone:=h.gone,own:=fun b hb'=>?_,ios:=h.ios,fresh:=h.fresh }
 · exact⟨hb.os.trans h.kept.os,hb.output.trans h.kept.output,hb.tape.trans h.kept.tape,aUE h.kept.size hb.size,
    fun b h1 h2 hm=>(hb.block b (aUN h1 h.kept.size)).trans (h.kept.old b h1 h2 hm),
    fun b h1 hm cs t h2=>by
     obtain⟨cs',h3,h4⟩:=h.kept.ios b h1 hm cs t h2
     exact⟨cs',by rw[hb.block b (aUN h1 h.kept.size)];exact h3,h4⟩⟩
 · obtain⟨O,h1,h2,h3⟩:=h.slots k
   refine⟨O,aXt _ _ _ (fun l _=>hβ l) (fun b hbO=>hb.block b (h2 b hbO).1) h1,fun b hbO=>hIm b (h2 b hbO),fun hd=>⟨(h3 hd).1,fun b hbO=>⟨((h3 hd).2 b hbO).1,hFree b (h2 b hbO).1 ((h3 hd).2 b hbO).2⟩⟩⟩
 · obtain⟨O,h1,h2,h3⟩:=h.objs l ob hl
   refine⟨O,fun b hbO=>hIm b (h1 b hbO),fun hd=>⟨(h2 hd).1,fun b hbO=>⟨((h2 hd).2 b hbO).1,hFree b (h1 b hbO).1 ((h2 hd).2 b hbO).2⟩⟩,?_⟩
   rcases h3 with h3 | ⟨b,cs,t,g1,g2,g3,g4⟩
   · exact .inl h3
   · refine .inr ⟨b,cs,t,g1,g2,by rw[hb.block b (h.block_lt g1)];exact g3,?_⟩
     cases hbx:ob.box with
     | true=>rw[hbx]at g4;exact aXr _ _ _ _ (fun _ _ l _=>hβ l) (fun b hbO=>hb.block b (h1 b hbO).1) g4
     | false=>rw[hbx]at g4;exact aXr _ _ _ _ (fun _ _ l _=>aXF _ _ l) (fun b hbO=>hb.block b (h1 b hbO).1) g4
 · obtain⟨h1,h2⟩:=h.own b hb'
   exact⟨aUN h1 hb.size,h2⟩
theorem lT {tmps:Array Value}{d:Nat}{c:Value}(h:d<tmps.size):(tmps.setIfInBounds d c).getD d undef=c:=by
 simp[aUV,h]
theorem sZ {tmps:Array Value}{d k:Nat}{c:Value}(h:d≠k):(tmps.setIfInBounds d c).getD k undef=tmps.getD k undef:=by
 simp only[aUV,aWV h]
theorem SimG.put (h:SimG Γ ow β E a w){d:Nat}(hd:d<N){v:PV}{c:Value}{O:List Nat}(hv:RelV w.heap β v c O)(hO:∀ b∈O,Im Γ ow w b) :
 SimG Γ ow β (E.app ⟨[(d,⟨v,false⟩)],[]⟩) (a.put (some d) c) w:=by
 refine { size:=by simp[Act.put,h.size],defers:=by simp[Act.put,h.defers],kept:=h.kept,slots:=fun k=>?_,objs:=by simpa [Env.app]using h.objs,gone:=by simpa [Env.app]using h.gone,own:=h.own,ios:=by simpa [Env.app]using h.ios,fresh:=h.fresh }
 simp only[Env.app,aUB,aUx,gI,Act.put]
 by_cases hk:d=k
 · subst hk
   rw[aUs rfl,lT (by rw[h.size];exact hd)]
   exact⟨O,hv,hO,by simp⟩
 · rw[aUq hk,sZ hk];exact h.slots k
theorem SimG.putDeep (h:SimG Γ ow β E a w){d:Nat}(hd:d<N){v:PV}{c:Value}{O:List Nat}(hv:RelV w.heap β v c O)(hO:∀ b∈O,Im Γ ow w b)(hn:O.Nodup)(hf:∀ b∈O,gA w b/\(Γ.nw b))
 (hfresh:∀ b∈O,ow b=.none\/ow b=.slot d) :
 SimG Γ (fun b=>if b∈O then .slot d else ow b) β (E.app ⟨[(d,⟨v,true⟩)],[]⟩) (a.put (some d) c) w:=by
 have hIm:∀ b,Im Γ ow w b->Im Γ (fun b=>if b∈O then Own.slot d else ow b) w b:=by
  intro b ⟨h1,h2,h3⟩
  refine⟨h1,h2,fun l=>?_⟩
  by_cases hb:b∈O
  · simp[hb]
  · simp[hb,h3 l]
 refine { size:=by simp[Act.put,h.size],defers:=by simp[Act.put,h.defers],kept:=h.kept,slots:=fun k=>?_,objs:=fun l ob hl=>?_,gone:=by simpa [Env.app]using h.gone,own:=fun b hb=>?_,ios:=by simpa [Env.app]using h.ios,fresh:=h.fresh }
 · simp only[Env.app,aUB,aUx,gI,Act.put]
   by_cases hk:d=k
   · subst hk
     rw[aUs rfl,lT (by rw[h.size];exact hd)]
     exact⟨O,hv,fun b hb=>hIm b (hO b hb),fun _=>⟨hn,fun b hb=>⟨by simp[hb],(hf b hb).1⟩⟩⟩
   · rw[aUq hk,sZ hk]
     obtain⟨O',g1,g2,g3⟩:=h.slots k
     refine⟨O',g1,fun b hb=>hIm b (g2 b hb),fun hdp=>⟨(g3 hdp).1,fun b hb=>⟨?_,((g3 hdp).2 b hb).2⟩⟩⟩
     have:=((g3 hdp).2 b hb).1
     by_cases hbO:b∈O
     · rcases hfresh b hbO with e | e <;> rw[e]at this <;> simp at this
       exact absurd this hk
     · simp[hbO,this]
 · simp only[Env.app,aUx]at hl
   obtain⟨O',g1,g2,g3⟩:=h.objs l ob hl
   refine⟨O',fun b hb=>hIm b (g1 b hb),fun hdp=>⟨(g2 hdp).1,fun b hb=>⟨?_,((g2 hdp).2 b hb).2⟩⟩,?_⟩
   · have:=((g2 hdp).2 b hb).1
     by_cases hbO:b∈O
     · rcases hfresh b hbO with e | e <;> rw[e]at this <;> simp at this
     · simp[hbO,this]
   · rcases g3 with g3 | ⟨b,cs,t,e1,e2,e3,e4⟩
     · exact .inl g3
     · refine .inr ⟨b,cs,t,e1,?_,e3,e4⟩
       by_cases hbO:b∈O
       · rcases hfresh b hbO with e | e <;> rw[e]at e2 <;> simp at e2
       · simp[hbO,e2]
 · by_cases hbO:b∈O
   · exact⟨(hO b hbO).1,.inl (hf b hbO).2⟩
   · simp only[hbO,aUT]at hb ⊢;exact h.own b hb
theorem SimG.take (h:SimG Γ ow β E a w){d s:Nat}(hd:d<N)(hne:d≠s){v:PV}{dp:Bool}(hs:lk E.s s=⟨v,dp⟩) :
 ∃ ow',SimG Γ ow' β (E.app ⟨[(d,⟨v,dp⟩),(s,⟨.any,false⟩)],[]⟩) (a.put (some d) (a.tmps.getD s undef)) w:=by
 obtain⟨O,hv,hO,hdp⟩:=h.slots s
 rw[hs]at hv hdp
 let ow':Nat->Own:=fun b=>if b∈O/\dp=true then .slot d else ow b
 have hIm:∀ b,Im Γ ow w b->Im Γ ow' w b:=by
  intro b ⟨h1,h2,h3⟩
  refine⟨h1,h2,fun l=>?_⟩
  show(if _ then _ else _)≠_
  split
  · simp
  · exact h3 l
 refine⟨ow',{ size:=by simp[Act.put,h.size],defers:=by simp[Act.put,h.defers],kept:=h.kept,slots:=fun k=>?_,objs:=fun l ob hl=>?_,gone:=by simpa [Env.app]using h.gone,own:=fun b hb=>?_,ios:=by simpa [Env.app]using h.ios,fresh:=h.fresh }⟩
 · simp only[Env.app,aUB,aUx,gI,Act.put]
   by_cases hk:d=k
   · subst hk
     rw[aUs rfl,lT (by rw[h.size];exact hd)]
     exact⟨O,hv,fun b hb=>hIm b (hO b hb),fun hx=>⟨(hdp hx).1,fun b hb=>⟨by show(if _ then _ else _)=_;rw[aUs ⟨hb,hx⟩],((hdp hx).2 b hb).2⟩⟩⟩
   · rw[aUq hk,sZ hk]
     by_cases hks:s=k
     · rw[aUs hks];exact⟨[],by simp[RelV],by simp,by simp⟩
     · rw[aUq hks]
       obtain⟨O',g1,g2,g3⟩:=h.slots k
       refine⟨O',g1,fun b hb=>hIm b (g2 b hb),fun hx=>⟨(g3 hx).1,fun b hb=>⟨?_,((g3 hx).2 b hb).2⟩⟩⟩
       have e:=((g3 hx).2 b hb).1
       show(if _ then _ else _)=_
       split
       · rename_i hc
         have:=((hdp hc.2).2 b hc.1).1
         rw[e]at this;simp at this;exact absurd this.symm hks
       · exact e
 · simp only[Env.app,aUx]at hl
   obtain⟨O',g1,g2,g3⟩:=h.objs l ob hl
   refine⟨O',fun b hb=>hIm b (g1 b hb),fun hx=>⟨(g2 hx).1,fun b hb=>⟨?_,((g2 hx).2 b hb).2⟩⟩,?_⟩
   · have e:=((g2 hx).2 b hb).1
     show(if _ then _ else _)=_
     split
     · rename_i hc
       have:=((hdp hc.2).2 b hc.1).1
       rw[e]at this;simp at this
     · exact e
   · rcases g3 with g3 | ⟨b,cs,t,e1,e2,e3,e4⟩
     · exact .inl g3
     · refine .inr ⟨b,cs,t,e1,?_,e3,e4⟩
       show(if _ then _ else _)=_
       split
       · rename_i hc
         have:=((hdp hc.2).2 b hc.1).1
         rw[e2]at this;simp at this
       · exact e2
 · have:ow b≠.none:=by
    intro e
    apply hb
    show(if _ then _ else _)=_
    split
    · rename_i hc
      have:=((hdp hc.2).2 b hc.1).1
      rw[e]at this;simp at this
    · exact e
   obtain⟨g1,g2⟩:=h.own b this
   refine⟨g1,g2.imp id fun⟨l,g3,g4⟩=>⟨l,?_,g4⟩⟩
   show(if _ then _ else _)=_
   split
   · rename_i hc
     have:=((hdp hc.2).2 b hc.1).1
     rw[g3]at this;simp at this
   · exact g3
end
/- The engine, part E: own blocks: one is laid (or an elder one is taken over), one is written. -/
open Go.RowKit (Below)
theorem aCn (ks:List Nat)(E:List (Nat×Slot))(k:Nat):lk (ks.map (fun j=>(j,(⟨.any,false⟩:Slot)))++E) k=if k∈ks then⟨.any,false⟩else lk E k:=by
 induction ks with
 | nil=>simp
 | cons j r ih =>
  simp only[aUH,aUB,gI,ih,aUr]
  by_cases h:j=k
  · subst h;simp
  · rw[aUq h]
    by_cases h2:k∈r
    · simp[h2]
    · have:¬k=j:=fun e=>h e.symm
      simp[h2,this]
theorem vG (ls:List Nat)(E:List (Nat×Option Ob))(k:Nat):lo (ls.map (fun j=>(j,(none:Option Ob)))++E) k=if k∈ls then none else lo E k:=by
 induction ls with
 | nil=>simp
 | cons j r ih =>
  simp only[aUH,aUB,aT,ih,aUr]
  by_cases h:j=k
  · subst h;simp
  · rw[aUq h]
    by_cases h2:k∈r
    · simp[h2]
    · have:¬k=j:=fun e=>h e.symm
      simp[h2,this]
section
variable {P:Program}{N:Nat}{Γ:Ctx P N}{ow:Nat->Own}{β:Nat->Option (Option Nat)}{E:Env}{a:Act}{w:World}
structure Same (w w':World):Prop where
 os:w'.os=w.os
 output:w'.output=w.output
 tape:w'.tape=w.tape
 size:w.heap.size<=w'.heap.size
theorem SimG.lab_ne (h:SimG Γ ow β E a w){m b:Nat}(hm:β m=some (some b)):ow b=.lab m:=by
 cases ho:lo E.o m with
 | none=>rw[h.gone m ho]at hm;cases hm
 | some ob =>
  obtain⟨O,_,_,h1⟩:=h.objs m ob ho
  rcases h1 with⟨h1,_⟩ | ⟨b',cs,t,h1,h2,_,_⟩
  · rw[h1]at hm;cases hm
  · rw[h1]at hm;cases hm;exact h2
theorem aRr {b b0:Nat}(h0:Γ.nww b0)(h1:b<Γ.base)(h2:¬Γ.mine b):b≠b0:=by
 rintro rfl
 rcases h0 with g | g
 · omega
 · exact h2 g
theorem SimG.lay (h:SimG Γ ow β E a w){w':World}(hw:Same w w'){b0:Nat}(hlt:b0<w'.heap.size)(hother:∀ b,b<w.heap.size->b≠b0->w'.heap[b]?=w.heap[b]?)
 {cs:Array Value} {t:TypeId} (hrow:w'.heap[b0]?=some (.cells cs t (0,0))) {l:Nat} (hl:NoLab E l) (hio:Γ.io l=none) (ks ls:List Nat)
 (horig:w.heap.size<=b0\/∃ m∈ls,β m=some (some b0)) (hbase:Γ.nww b0) (ob:Ob) {O:List Nat}
 (hrel:RelL w'.heap true (if ob.box then β else dead) ob.cells cs 0 O) (hlab:ob.box=true->∀ p∈ob.cells,l∉p.labs) (hO:∀ b∈O,Im Γ ow w b)
 (hdeep:ob.deep=true->O.Nodup/\∀ b∈O,gA w b/\Γ.nw b/\((∃ k∈ks,ow b=.slot k)\/(∃ m∈ls,ow b=.obj m)\/ow b=.none)) :
 ∃ ow',SimG Γ ow' (fun m=>if m=l then some (some b0)else if m∈ls then none else β m) (E.app ⟨ks.map (fun j=>(j,⟨.any,false⟩)),(l,some ob)::ls.map (fun j=>(j,none))⟩) a w':=by
 let β':Nat->Option (Option Nat):=fun m=>if m=l then some (some b0)else if m∈ls then none else β m
 let ow':Nat->Own:=fun b=>if b=b0 then .lab l else if b∈O/\ob.deep=true then .obj l else ow b
 have hImne:∀ b,Im Γ ow w b->b≠b0:=by
  rintro b ⟨h1,_,h3⟩ rfl
  rcases horig with h | ⟨m,_,hm⟩
  · omega
  · exact h3 m (h.lab_ne hm)
 have hIm:∀ b,Im Γ ow w b->Im Γ ow' w' b:=by
  intro b hb
  refine⟨aUN hb.1 hw.size,hb.2.1,fun m=>?_⟩
  show(if _ then _ else _)≠_
  rw[aUq (hImne b hb)]
  split
  · simp
  · exact hb.2.2 m
 have hFree:∀ b,Im Γ ow w b->gA w b->gA w' b:=fun b hb ⟨c,t,hc⟩=>⟨c,t,by rw[hother b hb.1 (hImne b hb)];exact hc⟩
 have hβb:∀ m b,β m=some (some b)->m∉ls->b≠b0:=by
  rintro m b hm hnl rfl
  rcases horig with h1 | ⟨m',hm',he⟩
  · have:=h.block_lt hm;omega
  · have e1:=h.lab_ne hm
    have e2:=h.lab_ne he
    rw[e1]at e2;simp at e2;subst e2;exact hnl hm'
 have hkeep:∀ m,m≠l->KeepB w.heap w'.heap β β' m:=by
  intro m hne o ho
  have ho':(if m∈ls then none else β m)=some o:=by
   have:β' m=(if m∈ls then none else β m):=by show(if _ then _ else _)=_;rw[aUq hne]
   rw[<- this];exact ho
  by_cases hm:m∈ls
  · rw[aUs hm]at ho';cases ho'
  · rw[aUq hm]at ho'
    refine⟨ho',fun b hob c t hc=>⟨c,?_,rfl⟩⟩
    subst hob
    rw[hother b (h.block_lt ho') (hβb m b ho' hm)];exact hc
 have hheap:∀ b,Im Γ ow w b->w'.heap[b]?=w.heap[b]?:=fun b hb=>hother b hb.1 (hImne b hb)
 refine⟨ow',{ size:=h.size,defers:=h.defers,kept:=?_,slots:=fun k=>?_,objs:=fun m ob' hm=>?_,gone:=fun m hm=>?_,own:=fun b hb=>?_,ios:=fun m b hm hs=>?_,fresh:=fun m b hm hiom=>?_ }⟩
 · refine⟨hw.os.trans h.kept.os,hw.output.trans h.kept.output,hw.tape.trans h.kept.tape,aUE h.kept.size hw.size,fun b h1 h2 hmi=>?_,fun b h1 hmi c t h2=>?_⟩
   · exact(hother b (aUN h1 h.kept.size) (aRr hbase h1 hmi)).trans (h.kept.old b h1 h2 hmi)
   · obtain⟨c',h3,h4⟩:=h.kept.ios b h1 hmi c t h2
     exact⟨c',by rw[hother b (aUN h1 h.kept.size) (aRr hbase h1 hmi)];exact h3,h4⟩
 · simp only[Env.app,aCn]
   by_cases hk:k∈ks
   · rw[aUs hk];exact⟨[],by simp[RelV],by simp,by simp⟩
   · rw[aUq hk]
     obtain⟨O',g1,g2,g3⟩:=h.slots k
     refine⟨O',aXt _ _ _ (fun m hm=>hkeep m (fun e=>hl.1 k (e▸hm))) (fun b hb=>hheap b (g2 b hb)) g1,fun b hb=>hIm b (g2 b hb),fun hd=>⟨(g3 hd).1,fun b hb=>⟨?_,hFree b (g2 b hb) ((g3 hd).2 b hb).2⟩⟩⟩
     have e:=((g3 hd).2 b hb).1
     show(if _ then _ else _)=_
     rw[aUq (hImne b (g2 b hb))]
     split
     · rename_i hc
       rcases((hdeep hc.2).2 b hc.1).2.2 with⟨k',hk',e'⟩ | ⟨m,_,e'⟩ | e' <;> rw[e]at e' <;> simp at e'
       subst e';exact absurd hk' hk
     · exact e
 · simp only[Env.app,aUB,aT,vG]at hm
   by_cases hml:l=m
   · subst hml
     rw[aUs rfl]at hm;cases hm
     refine⟨O,fun b hb=>hIm b (hO b hb),fun hd=>⟨(hdeep hd).1,fun b hb=>⟨?_,hFree b (hO b hb) ((hdeep hd).2 b hb).1⟩⟩,.inr ⟨b0,cs,t,?_,?_,hrow,?_⟩⟩
     · show(if _ then _ else _)=_
       rw[aUq (hImne b (hO b hb)),aUs ⟨hb,hd⟩]
     · show(if _ then _ else _)=_;rw[aUs rfl]
     · show(if _ then _ else _)=_;rw[aUs rfl]
     · cases hbx:ob.box with
       | false=>rw[hbx]at hrel;simpa using hrel
       | true =>
        rw[hbx]at hrel
        simp only[aUK]at hrel ⊢
        refine aXr _ _ _ _ (fun p hp m hm o ho=>?_) (fun _ _=>rfl) hrel
        have hne:m≠l:=fun e=>hlab hbx p hp (e▸hm)
        obtain⟨g1,g2⟩:=hkeep m hne o ho
        refine⟨g1,fun b hob c t hc=>?_⟩
        exact⟨c,hc,rfl⟩
   · rw[aUq hml]at hm
     by_cases hmls:m∈ls
     · rw[aUs hmls]at hm;cases hm
     · rw[aUq hmls]at hm
       obtain⟨O',g1,g2,g3⟩:=h.objs m ob' hm
       have eβ:β' m=β m:=by show(if _ then _ else _)=_;rw[aUq (fun e=>hml e.symm),aUq hmls]
       refine⟨O',fun b hb=>hIm b (g1 b hb),fun hd=>⟨(g2 hd).1,fun b hb=>⟨?_,hFree b (g1 b hb) ((g2 hd).2 b hb).2⟩⟩,?_⟩
       · have e:=((g2 hd).2 b hb).1
         show(if _ then _ else _)=_
         rw[aUq (hImne b (g1 b hb))]
         split
         · rename_i hc
           rcases((hdeep hc.2).2 b hc.1).2.2 with⟨k',_,e'⟩ | ⟨m',hm',e'⟩ | e' <;> rw[e]at e' <;> simp at e'
           subst e';exact absurd hm' hmls
         · exact e
       · rcases g3 with⟨e1,e2,e3⟩ | ⟨b,c,t',e1,e2,e3,e4⟩
         · exact .inl ⟨eβ.trans e1,e2,e3⟩
         · have hbne:=hβb m b e1 hmls
           refine .inr ⟨b,c,t',eβ.trans e1,?_,by rw[hother b (h.block_lt e1) hbne];exact e3,?_⟩
           · show(if _ then _ else _)=_
             rw[aUq hbne]
             split
             · rename_i hc
               exact absurd e2 ((hO b hc.1).2.2 m)
             · exact e2
           · cases hbx:ob'.box with
             | false=>rw[hbx]at e4;exact aXr _ _ _ _ (fun _ _ l _=>aXF _ _ l) (fun b hb=>hheap b (g1 b hb)) e4
             | true =>
              rw[hbx]at e4
              exact aXr _ _ _ _ (fun p hp m' hm'=>hkeep m' (fun e=>hl.2.1 m ob' hm hbx p hp (e▸hm'))) (fun b hb=>hheap b (g1 b hb)) e4
 · simp only[Env.app,aUB,aT,vG]at hm
   show(if _ then _ else _)=_
   by_cases hml:m=l
   · subst hml;rw[aUs rfl]at hm;cases hm
   · rw[aUq hml]
     rw[aUq (fun e=>hml e.symm)]at hm
     by_cases hmls:m∈ls
     · rw[aUs hmls]
     · rw[aUq hmls]at hm ⊢;exact h.gone m hm
 · have hb':(if b=b0 then Own.lab l else if b∈O/\ob.deep=true then Own.obj l else ow b)≠Own.none:=hb
   by_cases hbb:b=b0
   · subst hbb;exact⟨hlt,.inl (.inl hbase)⟩
   · rw[aUq hbb]at hb'
     by_cases hc:b∈O/\ob.deep=true
     · exact⟨aUN (hO b hc.1).1 hw.size,.inl ((hdeep hc.2).2 b hc.1).2.1⟩
     · rw[aUq hc]at hb'
       obtain⟨g1,g2⟩:=h.own b hb'
       refine⟨aUN g1 hw.size,g2.imp id fun⟨m,g3,g4⟩=>⟨m,?_,g4⟩⟩
       show(if _ then _ else _)=_
       rw[aUq hbb,aUq hc];exact g3
 · simp only[Env.app,aUB,aT,vG]at hs
   have hml:m≠l:=by rintro rfl;rw[hio]at hm;cases hm
   rw[aUq (fun e=>hml e.symm)]at hs
   have hmls:m∉ls:=by intro e;rw[aUs e]at hs;simp at hs
   rw[aUq hmls]at hs
   show(if _ then _ else _)=_
   rw[aUq hml,aUq hmls];exact h.ios m b hm hs
 · have hm':(if m=l then some (some b0)else if m∈ls then none else β m)=some (some b):=hm
   by_cases hml:m=l
   · rw[aUs hml]at hm';cases hm';exact hbase
   · rw[aUq hml]at hm'
     by_cases hmls:m∈ls
     · rw[aUs hmls]at hm';cases hm'
     · rw[aUq hmls]at hm';exact h.fresh m b hm' hiom
theorem SimG.rewrite (h:SimG Γ ow β E a w){w':World}(hw:Same w w'){l b0:Nat}(hβ0:β l=some (some b0))(hother:∀ b,b<w.heap.size->b≠b0->w'.heap[b]?=w.heap[b]?)
 {cs cs':Array Value} {t:TypeId} (hrow0:w.heap[b0]?=some (.cells cs t (0,0))) (hrow:w'.heap[b0]?=some (.cells cs' t (0,0))) (hsz:cs'.size=cs.size) (ks:List Nat) (ob:Ob) {O:List Nat}
 (hrel:RelL w'.heap true (if ob.box then β else dead) ob.cells cs' 0 O) (hO:∀ b∈O,Im Γ ow w b)
 (hdeep:ob.deep=true->O.Nodup/\∀ b∈O,gA w b/\Γ.nw b/\((∃ k∈ks,ow b=.slot k)\/ow b=.obj l\/ow b=.none)) :
 ∃ ow',SimG Γ ow' β (E.app ⟨ks.map (fun j=>(j,⟨.any,false⟩)),[(l,some ob)]⟩) a w':=by
 let ow':Nat->Own:=fun b=>if b∈O/\ob.deep=true then .obj l else ow b
 have hlab0:=h.lab_ne hβ0
 have hImne:∀ b,Im Γ ow w b->b≠b0:=by rintro b ⟨_,_,h3⟩ rfl;exact h3 l hlab0
 have hIm:∀ b,Im Γ ow w b->Im Γ ow' w' b:=by
  intro b hb
  refine⟨aUN hb.1 hw.size,hb.2.1,fun m=>?_⟩
  show(if _ then _ else _)≠_
  split
  · simp
  · exact hb.2.2 m
 have hFree:∀ b,Im Γ ow w b->gA w b->gA w' b:=fun b hb ⟨c,t,hc⟩=>⟨c,t,by rw[hother b hb.1 (hImne b hb)];exact hc⟩
 have hheap:∀ b,Im Γ ow w b->w'.heap[b]?=w.heap[b]?:=fun b hb=>hother b hb.1 (hImne b hb)
 have hshape:∀ b,b<w.heap.size->aD9 w.heap w'.heap b:=by
  intro b hb c t' hc
  by_cases hbb:b=b0
  · subst hbb;rw[hrow0]at hc;cases hc;exact⟨cs',hrow,hsz⟩
  · exact⟨c,by rw[hother b hb hbb];exact hc,rfl⟩
 have hkeep:∀ m,KeepB w.heap w'.heap β β m:=fun m o ho=>⟨ho,fun b hob=>by subst hob;exact hshape b (h.block_lt ho)⟩
 refine⟨ow',{ size:=h.size,defers:=h.defers,kept:=?_,slots:=fun k=>?_,objs:=fun m ob' hm=>?_,gone:=fun m hm=>?_,own:=fun b hb=>?_,ios:=fun m b hm hs=>?_,fresh:=h.fresh }⟩
 · refine⟨hw.os.trans h.kept.os,hw.output.trans h.kept.output,hw.tape.trans h.kept.tape,aUE h.kept.size hw.size,fun b h1 h2 hmi=>?_,fun b h1 hmi c t' h2=>?_⟩
   · have hne:b≠b0:=by
      rintro rfl
      cases hi:Γ.io l with
      | none =>
       rcases h.fresh l b hβ0 hi with g | g
       · omega
       · exact hmi g
      | some b' =>
       have hsome:(lo E.o l).isSome=true:=by
        cases hoo:lo E.o l with
        | none=>rw[h.gone l hoo]at hβ0;cases hβ0
        | some _=>rfl
       have:=h.ios l b' hi hsome
       rw[hβ0]at this;cases this
       exact h2 l hi
     exact(hother b (aUN h1 h.kept.size) hne).trans (h.kept.old b h1 h2 hmi)
   · obtain⟨c',h3,h4⟩:=h.kept.ios b h1 hmi c t' h2
     obtain⟨c'',h5,h6⟩:=hshape b (aUN h1 h.kept.size) c' t' h3
     exact⟨c'',h5,h6.trans h4⟩
 · simp only[Env.app,aCn]
   by_cases hk:k∈ks
   · rw[aUs hk];exact⟨[],by simp[RelV],by simp,by simp⟩
   · rw[aUq hk]
     obtain⟨O',g1,g2,g3⟩:=h.slots k
     refine⟨O',aXt _ _ _ (fun m _=>hkeep m) (fun b hb=>hheap b (g2 b hb)) g1,fun b hb=>hIm b (g2 b hb),fun hd=>⟨(g3 hd).1,fun b hb=>⟨?_,hFree b (g2 b hb) ((g3 hd).2 b hb).2⟩⟩⟩
     have e:=((g3 hd).2 b hb).1
     show(if _ then _ else _)=_
     split
     · rename_i hc
       rcases((hdeep hc.2).2 b hc.1).2.2 with⟨k',hk',e'⟩ | e' | e' <;> rw[e]at e' <;> simp at e'
       subst e';exact absurd hk' hk
     · exact e
 · simp only[Env.app,aUB,aUx,aT]at hm
   by_cases hml:l=m
   · subst hml
     rw[aUs rfl]at hm;cases hm
     refine⟨O,fun b hb=>hIm b (hO b hb),fun hd=>⟨(hdeep hd).1,fun b hb=>⟨?_,hFree b (hO b hb) ((hdeep hd).2 b hb).1⟩⟩,.inr ⟨b0,cs',t,hβ0,?_,hrow,hrel⟩⟩
     · show(if _ then _ else _)=_;rw[aUs ⟨hb,hd⟩]
     · show(if _ then _ else _)=_
       rw[aUq (fun hc=>hImne b0 (hO b0 hc.1) rfl)];exact hlab0
   · rw[aUq hml]at hm
     obtain⟨O',g1,g2,g3⟩:=h.objs m ob' hm
     refine⟨O',fun b hb=>hIm b (g1 b hb),fun hd=>⟨(g2 hd).1,fun b hb=>⟨?_,hFree b (g1 b hb) ((g2 hd).2 b hb).2⟩⟩,?_⟩
     · have e:=((g2 hd).2 b hb).1
       show(if _ then _ else _)=_
       split
       · rename_i hc
         rcases((hdeep hc.2).2 b hc.1).2.2 with⟨k',_,e'⟩ | e' | e' <;> rw[e]at e' <;> simp at e'
         exact absurd e'.symm hml
       · exact e
     · rcases g3 with g3 | ⟨b,c,t',e1,e2,e3,e4⟩
       · exact .inl g3
       · have hbne:b≠b0:=by rintro rfl;rw[hlab0]at e2;simp at e2;exact hml e2
         refine .inr ⟨b,c,t',e1,?_,by rw[hother b (h.block_lt e1) hbne];exact e3,?_⟩
         · show(if _ then _ else _)=_
           rw[aUq (fun hc=>(hO b hc.1).2.2 m e2)];exact e2
         · cases hbx:ob'.box with
           | false=>rw[hbx]at e4;exact aXr _ _ _ _ (fun _ _ l _=>aXF _ _ l) (fun b hb=>hheap b (g1 b hb)) e4
           | true=>rw[hbx]at e4;exact aXr _ _ _ _ (fun _ _ m' _=>hkeep m') (fun b hb=>hheap b (g1 b hb)) e4
 · simp only[Env.app,aUB,aUx,aT]at hm
   by_cases hml:l=m
   · rw[aUs hml]at hm;cases hm
   · rw[aUq hml]at hm;exact h.gone m hm
 · have hb':(if b∈O/\ob.deep=true then Own.obj l else ow b)≠Own.none:=hb
   by_cases hc:b∈O/\ob.deep=true
   · exact⟨aUN (hO b hc.1).1 hw.size,.inl ((hdeep hc.2).2 b hc.1).2.1⟩
   · rw[aUq hc]at hb'
     obtain⟨g1,g2⟩:=h.own b hb'
     refine⟨aUN g1 hw.size,g2.imp id fun⟨m,g3,g4⟩=>⟨m,?_,g4⟩⟩
     show(if _ then _ else _)=_
     rw[aUq hc];exact g3
 · simp only[Env.app,aUB,aUx,aT]at hs
   by_cases hml:l=m
   · subst hml
     have:(lo E.o l).isSome=true:=by
      cases ho:lo E.o l with
      | none=>rw[h.gone l ho]at hβ0;cases hβ0
      | some _=>rfl
     exact h.ios l b hm this
   · rw[aUq hml]at hs;exact h.ios m b hm hs
end
end Go.Ev
