/- The law on the clique of a node. -/
import Derived.Test.YtjldbhookjengaaW4
set_option linter.all false
namespace Go.Ev
open Go.Proofs
attribute [local irreducible] CodeT Ent Meets Local LocalAt Res1 RetIs Sim OpT StepT NoLab Then InBlock Round Cut ends
theorem szInts_pos {l : List Int} {left : Int} (h : ¬ szInts l left < 0) : szInts l left = left - l.length ∧ (l.length : Int) ≤ left := by
  unfold szInts at h ⊢; split at h <;> first | omega | (rename_i hn; rw [if_neg hn]; omega)
theorem szCl_pos {c : Clique} {left : Int} (h : ¬ szCl c left < 0) : szCl c left ≤ left ∧ (c.fFrontal.length : Int) ≤ left ∧ (c.fSeparator.length : Int) ≤ left := by
  unfold szCl at h ⊢
  by_cases h1 : szInts c.fFrontal left < 0
  · rw [if_pos h1] at h; omega
  · rw [if_neg h1] at h ⊢
    obtain ⟨e1, e2⟩ := szInts_pos h1
    by_cases h2 : szInts c.fSeparator (szInts c.fFrontal left) < 0
    · rw [if_pos h2] at h; omega
    · rw [if_neg h2] at h ⊢
      obtain ⟨e3, e4⟩ := szInts_pos h2
      omega
theorem szClsFrom_pos : ∀ {l : List Clique} {left : Int}, ¬ szClsFrom l left < 0 → left ≤ 1048576 → ∀ c ∈ l, smallClique c
  | [], _, _, _, c, hc => by cases hc
  | x :: r, left, h, hl, c, hc => by
    rw [szClsFrom] at h
    by_cases h1 : szCl x left < 0
    · rw [if_pos h1] at h; omega
    · rw [if_neg h1] at h
      obtain ⟨e1, e2, e3⟩ := szCl_pos h1
      rcases List.mem_cons.1 hc with rfl | hc
      · unfold smallClique; omega
      · exact szClsFrom_pos h (by omega) c hc
theorem szCls_pos {l : List Clique} (h : ¬ szCls l 1048576 < 0) : l.length ≤ 1048576 ∧ ∀ c ∈ l, smallClique c := by
  unfold szCls at h
  by_cases h1 : (1048576 : Int) - l.length < 0
  · rw [if_pos h1] at h; omega
  · rw [if_neg h1] at h
    exact ⟨by omega, szClsFrom_pos h (by omega)⟩
theorem law_cliqueOf (l : List Clique) (n : Int) (hok : okL okClique l) (_ : okI .i64 n) : Meets Try.prog 6 [.sl l.length (l.flatMap encClique), .sc (.int .i64 n)] (.sc (.bool true)) true := by
  have hm : ∀ x ∈ l, x.fFrontal.length ≤ maxLen ∧ x.fSeparator.length ≤ maxLen := fun x hx => ⟨(hok.2 x hx).1.1, (hok.2 x hx).2.1.1⟩
  refine Meets.intro (N := 31) (rs := #[.tmp 4]) Try.func6 rfl rfl rfl rfl ?_
  intro Γ hio
  by_cases hs : szCls l 1048576 < 0
  · repeat' first | (apply R_bool; (apply L_call; (repeat' first | apply ArgsV.nil | (apply ArgsV.cons; (first | (apply ArgV.val; rfl; rfl) | (apply ArgV.nil; rfl) | (apply ArgV.ref; rfl; rfl; (first | exact Nat.le_refl _ | (simp; done)))))); (first | (exact szCls_m l _ hok (by omega))); rfl; rfl; rfl); rfl; all_goals intro _) | (apply Run.op; (apply L_call; (repeat' first | apply ArgsV.nil | (apply ArgsV.cons; (first | (apply ArgV.val; rfl; rfl) | (apply ArgV.nil; rfl) | (apply ArgV.ref; rfl; rfl; (first | exact Nat.le_refl _ | (simp; done)))))); (first | (exact szCls_m l _ hok (by omega))); rfl; rfl; rfl); rfl; rfl) | (apply Run.op; (first | (apply L_mov; rfl; rfl) | (apply L_asgT; rfl; rfl; rfl) | (apply L_asg; rfl; rfl) | (apply L_pickT; rfl; rfl; rfl) | (apply L_pickF; rfl; rfl; rfl) | (apply L_lenS; rfl; rfl) | (apply L_len; rfl; rfl) | (apply L_lenR; rfl; rfl; rfl) | (apply L_lenN; rfl; rfl) | (apply L_add; rfl; rfl; (exact w64 (by omega)); rfl) | (apply L_sub; rfl; rfl; (exact w64 (by omega)); rfl) | (apply L_mul; rfl; rfl; (exact w64 (by omega)); rfl) | (apply L_neg; rfl; (exact w64 (by omega)); rfl) | (apply L_not; rfl; rfl) | (apply L_indexS; rfl; rfl; omega; rfl) | (apply L_max; rfl; rfl; rfl) | (apply L_fldI; rfl; rfl) | (apply L_fldP; rfl; rfl; (first | rfl | (simp; omega)); rfl) | (apply L_ldI; rfl; rfl; rfl; rfl) | (apply L_ldIA; rfl; (first | exact take_whole rfl | rfl); rfl; (intro h; cases h); rfl) | (apply L_ldP; rfl; rfl; rfl; (first | exact .inl rfl | exact .inr rfl); rfl) | (apply L_ldPA; rfl; rfl; (first | exact seg_whole rfl | rfl); rfl; (intro h; cases h); (first | exact .inl rfl | exact .inr rfl); rfl) | (apply L_ixS; rfl; rfl; rfl; rfl; assumption; (intro; rfl); rfl) | (apply L_ixR; rfl; rfl; rfl; rfl; omega; rfl) | (apply L_alloc false; (exact io1 hio _); rfl) | (apply L_boxT; rfl; rfl; rfl; (exact io1 hio _); rfl) | (apply L_box false; rfl; rfl; rfl; (exact .inl rfl); (exact io1 hio _); rfl) | (apply L_make; rfl; rfl; rfl; rfl; omega; omega; (intro h; cases h); (exact io1 hio _); rfl) | (apply L_bs0; (exact io1 hio _); rfl) | (apply L_bs1; rfl; rfl; rfl; rfl; rfl; rfl; rfl; rfl) | (apply L_stT; rfl; rfl; rfl; rfl; rfl; rfl; (intro h; cases h); (first | rfl | exact fill_ble (by assumption) (fun _ => rfl) rfl); (first | exact splice_whole rfl | exact fill_splice (by assumption) (fun _ => rfl) rfl | rfl)) | (apply L_st; rfl; rfl; rfl; rfl; rfl; (intro h; cases h); (first | rfl | exact fill_ble (by assumption) (fun _ => rfl) rfl); (first | exact splice_whole rfl | exact fill_splice (by assumption) (fun _ => rfl) rfl | rfl))); rfl; rfl) | (apply Run.skip; rfl) | (apply R_dec; (first | (apply L_lss; rfl; rfl; rfl) | (apply L_leq; rfl; rfl; rfl) | (apply L_gtr; rfl; rfl; rfl) | (apply L_geq; rfl; rfl; rfl) | (apply L_eql; rfl; rfl; rfl) | (apply L_neq; rfl; rfl; rfl) | (apply L_seql; rfl; rfl; rfl) | (apply L_sneq; rfl; rfl; rfl)); rfl; all_goals (intro _; try (exfalso; omega))) | (apply R_bool; (first | (apply L_beql; rfl; rfl; rfl) | (apply L_bneq; rfl; rfl; rfl)); rfl; all_goals intro _) | (apply Run.done; refine ⟨fun h => Bool.noConfusion h, ?_⟩) | (apply Run.done; refine ⟨fun _ => ⟨rfl, rfl⟩, ?_⟩) | (apply CodeT.seq) | (apply CodeT.region (fun _ => PPm)) | (apply CodeT.condT; rfl) | (apply CodeT.condF; rfl) | apply CodeT.block | apply CodeT.exit | apply CodeT.ret | apply CodeT.skip | apply x3 | (apply x6; rfl) | (apply x7; rfl) | apply x1 | apply x2 | apply x4 | apply x5 | apply x8 | apply x9 | apply x10 | apply x11 | apply x12 | apply x13
    all_goals (refine RetIs.b1 rfl rfl)
  · obtain ⟨hl, hc⟩ := szCls_pos hs
    have hsm : okL smallClique l := ⟨hok.1, hc⟩
    repeat' first | (apply R_bool; (apply L_call; (repeat' first | apply ArgsV.nil | (apply ArgsV.cons; (first | (apply ArgV.val; rfl; rfl) | (apply ArgV.nil; rfl) | (apply ArgV.ref; rfl; rfl; (first | exact Nat.le_refl _ | (simp; done)))))); (first | (exact szCls_m l _ hok (by omega)) | (exact toCliques_m l hsm hl) | (exact spec_cliqueOf l n hok) | (exact impl_cliqueOf l n hok) | (exact eqCliques_m l l hok.1 hm)); rfl; rfl; rfl); rfl; all_goals intro _) | (apply Run.op; (apply L_call; (repeat' first | apply ArgsV.nil | (apply ArgsV.cons; (first | (apply ArgV.val; rfl; rfl) | (apply ArgV.nil; rfl) | (apply ArgV.ref; rfl; rfl; (first | exact Nat.le_refl _ | (simp; done)))))); (first | (exact szCls_m l _ hok (by omega)) | (exact toCliques_m l hsm hl) | (exact spec_cliqueOf l n hok) | (exact impl_cliqueOf l n hok) | (exact eqCliques_m l l hok.1 hm)); rfl; rfl; rfl); rfl; rfl) | (apply Run.op; (first | (apply L_mov; rfl; rfl) | (apply L_asgT; rfl; rfl; rfl) | (apply L_asg; rfl; rfl) | (apply L_pickT; rfl; rfl; rfl) | (apply L_pickF; rfl; rfl; rfl) | (apply L_lenS; rfl; rfl) | (apply L_len; rfl; rfl) | (apply L_lenR; rfl; rfl; rfl) | (apply L_lenN; rfl; rfl) | (apply L_add; rfl; rfl; (exact w64 (by omega)); rfl) | (apply L_sub; rfl; rfl; (exact w64 (by omega)); rfl) | (apply L_mul; rfl; rfl; (exact w64 (by omega)); rfl) | (apply L_neg; rfl; (exact w64 (by omega)); rfl) | (apply L_not; rfl; rfl) | (apply L_indexS; rfl; rfl; omega; rfl) | (apply L_max; rfl; rfl; rfl) | (apply L_fldI; rfl; rfl) | (apply L_fldP; rfl; rfl; (first | rfl | (simp; omega)); rfl) | (apply L_ldI; rfl; rfl; rfl; rfl) | (apply L_ldIA; rfl; (first | exact take_whole rfl | rfl); rfl; (intro h; cases h); rfl) | (apply L_ldP; rfl; rfl; rfl; (first | exact .inl rfl | exact .inr rfl); rfl) | (apply L_ldPA; rfl; rfl; (first | exact seg_whole rfl | rfl); rfl; (intro h; cases h); (first | exact .inl rfl | exact .inr rfl); rfl) | (apply L_ixS; rfl; rfl; rfl; rfl; assumption; (intro; rfl); rfl) | (apply L_ixR; rfl; rfl; rfl; rfl; omega; rfl) | (apply L_alloc false; (exact io1 hio _); rfl) | (apply L_boxT; rfl; rfl; rfl; (exact io1 hio _); rfl) | (apply L_box false; rfl; rfl; rfl; (exact .inl rfl); (exact io1 hio _); rfl) | (apply L_make; rfl; rfl; rfl; rfl; omega; omega; (intro h; cases h); (exact io1 hio _); rfl) | (apply L_bs0; (exact io1 hio _); rfl) | (apply L_bs1; rfl; rfl; rfl; rfl; rfl; rfl; rfl; rfl) | (apply L_stT; rfl; rfl; rfl; rfl; rfl; rfl; (intro h; cases h); (first | rfl | exact fill_ble (by assumption) (fun _ => rfl) rfl); (first | exact splice_whole rfl | exact fill_splice (by assumption) (fun _ => rfl) rfl | rfl)) | (apply L_st; rfl; rfl; rfl; rfl; rfl; (intro h; cases h); (first | rfl | exact fill_ble (by assumption) (fun _ => rfl) rfl); (first | exact splice_whole rfl | exact fill_splice (by assumption) (fun _ => rfl) rfl | rfl))); rfl; rfl) | (apply Run.skip; rfl) | (apply R_dec; (first | (apply L_lss; rfl; rfl; rfl) | (apply L_leq; rfl; rfl; rfl) | (apply L_gtr; rfl; rfl; rfl) | (apply L_geq; rfl; rfl; rfl) | (apply L_eql; rfl; rfl; rfl) | (apply L_neq; rfl; rfl; rfl) | (apply L_seql; rfl; rfl; rfl) | (apply L_sneq; rfl; rfl; rfl)); rfl; all_goals (intro _; try (exfalso; omega))) | (apply R_bool; (first | (apply L_beql; rfl; rfl; rfl) | (apply L_bneq; rfl; rfl; rfl)); rfl; all_goals intro _) | (apply Run.done; refine ⟨fun h => Bool.noConfusion h, ?_⟩) | (apply Run.done; refine ⟨fun _ => ⟨rfl, rfl⟩, ?_⟩) | (apply CodeT.seq) | (apply CodeT.region (fun _ => PPm)) | (apply CodeT.condT; rfl) | (apply CodeT.condF; rfl) | apply CodeT.block | apply CodeT.exit | apply CodeT.ret | apply CodeT.skip | apply x3 | (apply x6; rfl) | (apply x7; rfl) | apply x1 | apply x2 | apply x4 | apply x5 | apply x8 | apply x9 | apply x10 | apply x11 | apply x12 | apply x13
    all_goals first
      | (refine RetIs.b1 rfl rfl)
      | (exfalso; simp_all; done)
end Go.Ev
