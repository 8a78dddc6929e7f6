/- Parts PL, PN, PO. -/
import Derived.Test.YtaoohcogjnghjaaE3
set_option linter.all false
/- Plain laws: loops over lists. No program. -/
namespace Go.Ev
theorem wi {n:Int} (h:-9223372036854775808≤n∧n≤9223372036854775807):IntKind.i64.wrap n=n:=by
  rw [IntKind.wrap_i64];omega
theorem wL {α:Type} (l:List α) (k:Nat):idx l (k:Int)=l[k]?:=by
  unfold idx;rw [if_pos (by omega)];simp
theorem cZ {α:Type} {l:List α} {k:Nat} (h:k < l.length):idx l (k:Int)=some l[k]:=by rw [wL];simp [h]
theorem aZ {p:Prop} {_:Decidable p} (h:p):chk p=some ():=by unfold chk;rw [if_pos h]
section
variable {α σ τ ρ:Type}
end
end Go.Ev
namespace Go.Ev
section
variable {σ ρ:Type}
end
end Go.Ev
namespace Go.Ev
section
variable {σ ρ:Type}
theorem lS {step:Int→Option (Int ⊕ ρ)} (n:Nat) (Q:ρ→Prop) (J:Nat→Prop) (h0:J 0) (h1:∀ k:Nat,k < n→J k→(step (k:Int)=some (.inl ((k+1:Nat):Int))∧J (k+1))∨∃ r,step (k:Int)=some (.inr r)∧Q r) (h2:J n→∃ r,step (n:Int)=some (.inr r)∧Q r):∃ r,lp step 0=some r∧Q r:=by
  have main:∀ m k:Nat,m+k=n→J k→∃ r,lp step (k:Int)=some r∧Q r:=by
    intro m
    induction m with
    | zero =>
      intro k hk hj
      have:k=n:=by omega
      subst this
      obtain ⟨r,e,q⟩:=h2 hj
      exact ⟨r,dE e,q⟩
    | succ m ih =>
      intro k hk hj
      rcases h1 k (by omega) hj with ⟨e,hj'⟩ | ⟨r,e,q⟩
      · rw [fQ e];exact ih (k+1) (by omega) hj'
      · exact ⟨r,dE e,q⟩
  exact main n 0 (by omega) h0
end
end Go.Ev
namespace Go.Ev
theorem iG {α σ τ ρ:Type} {step:σ→Option (σ ⊕ ρ)} (l:List α) (E:Nat→τ→σ) (f:τ→α→τ) (fin:τ→ρ) (I:Nat→τ→Prop)
    (h1:∀ k t (hk:k < l.length),I k t→step (E k t)=some (.inl (E (k+1) (f t l[k])))∧I (k+1) (f t l[k])) (h2:∀ t,I l.length t→step (E l.length t)=some (.inr (fin t))) (t:τ) (h0:I 0 t) :
    lp step (E 0 t)=some (fin (l.foldl f t))∧I l.length (l.foldl f t):=by
  have main:∀ n k t,n+k=l.length→I k t→lp step (E k t)=some (fin ((l.drop k).foldl f t))∧I l.length ((l.drop k).foldl f t):=by
    intro n
    induction n with
    | zero =>
      intro k t hk hi
      have:k=l.length:=by omega
      subst this
      rw [List.drop_length,List.foldl_nil]
      exact ⟨dE (h2 t hi),hi⟩
    | succ n ih =>
      intro k t hk hi
      have hlt:k < l.length:=by omega
      obtain ⟨e,hi'⟩:=h1 k t hlt hi
      rw [List.drop_eq_getElem_cons hlt,List.foldl_cons,fQ e]
      exact ih (k+1) _ (by omega) hi'
  have:=main l.length 0 t (by omega) h0
  simpa using this
def oO (l:List ByteArray) (s:ByteArray):Bool:=l.any (fun x=>decide (x=s))
theorem lE {l:List ByteArray} {s:ByteArray}:oO l s=true↔s ∈ l:=by
  unfold oO
  rw [List.any_eq_true]
  constructor
  · rintro ⟨x,h1,h2⟩;rw [← of_decide_eq_true h2];exact h1
  · intro h;exact ⟨s,h,by simp⟩
theorem vC {l:List ByteArray} {s:ByteArray}:oO l s=false↔s ∉ l:=by
  rw [← lE];simp
end Go.Ev
/- Plain laws of loops over nested values: sizes, copies, comparisons, marks. No program. -/
namespace Go.Ev
section
variable {α:Type}
end
end Go.Ev
/- Plain laws of loops: comparison of lists, search. No program. -/
namespace Go.Ev
section
variable {α:Type}
end
end Go.Ev
