/- The law MetaAccess. -/
import Derived.Test.YtnckglnnojcdmaaPuJ
import Derived.Test.YtnckglnnojcdmaaPx14
set_option linter.unusedVariables false
set_option linter.unusedSimpArgs false
namespace Go.Proofs.Ytnckglnnojcdmaa.P
open Go.RowKit Go.Proofs.YtnckglnnojcdmaaW.PrintWords Go.Proofs.YtnckglnnojcdmaaW.PrintLast

theorem set_ok {l m : List S42} {key v : ByteArray} (h : setP l key v = (m, 0)) : checkP l = 0 ∧ checkP m = 0 ∧ m = mergeA l [⟨key, v⟩] := by
  unfold setP at h
  by_cases hc : checkP l = 0
  · obtain ⟨ll, vl, Al⟩ := (checkP_iff l).1 hc
    rw [if_pos hc] at h
    by_cases hk : (keyOk key && valueOk v) = true
    · rw [if_pos hk] at h
      by_cases hn : (notIn l ⟨key, v⟩ = true ∧ l.length = 64)
      · rw [if_pos hn] at h
        exact absurd (Prod.mk.inj h).2 (by decide)
      · rw [if_neg hn] at h
        have e := (Prod.mk.inj h).1
        exact ⟨hc, by rw [← e]; exact merge_check hc (one_check hk) (set_small Al ll hn), e.symm⟩
    · rw [if_neg hk] at h
      exact absurd (Prod.mk.inj h).2 (by decide)
  · rw [if_neg hc] at h
    exact absurd (Prod.mk.inj h).2 hc
theorem law_access (l : List S42) (key v : ByteArray) : Ev (fun k => waveletlaw47_MetaAccess.f k l key v) true := by
  obtain ⟨f, hf, hF⟩ := few_any l
  obtain ⟨g, hg, hG⟩ := few_any [⟨key, v⟩]
  have jt : Ev (fun k => waveletlaw47_MetaAccess.j0 k l key v true) true := Ev.step (fun k => by simp only [waveletlaw47_MetaAccess.j0]; rw [if_pos trivial]) awake_bind
  have jf : Ev (fun k => waveletlaw47_MetaAccess.j0 k l key v false) true := by
    refine Ev.step (fun k => by simp only [waveletlaw47_MetaAccess.j0]; rw [if_neg (by simp)]) (Ev.bind (mset_ev l key v) ?_)
    obtain ⟨m, e, hme⟩ : ∃ m e, setP l key v = (m, e) := ⟨_, _, rfl⟩
    rw [hme]
    by_cases he : e = 0
    · subst he
      obtain ⟨hc, hcm, hm⟩ := set_ok hme
      obtain ⟨ll, vl, Al⟩ := (checkP_iff l).1 hc
      obtain ⟨lm, vm, Am⟩ := (checkP_iff m).1 hcm
      have A1 : Asc [(⟨key, v⟩ : S42)] := by simp [Asc]
      have mem : ∀ z, z ∈ m ↔ z = ⟨key, v⟩ ∨ (z ∈ l ∧ ¬ z.f0 = key) := fun z => by
        rw [hm, mergeA_mem Al A1, List.mem_singleton, in_one]
        exact ⟨fun h => h.imp id (fun h => ⟨h.1, fun e => h.2 e.symm⟩), fun h => h.imp id (fun h => ⟨h.1, fun e => h.2 e.symm⟩)⟩
      have gk : getL key m = (v, true) := getL_mem (x := ⟨key, v⟩) Am ((mem _).2 (Or.inl rfl))
      have loop : ∀ d i, i + d = l.length → Ev (fun k => waveletlaw47_MetaAccess.l0 k l key m l (l.length : Int) (i : Int)) true := by
        intro d
        induction d with
        | zero =>
          intro i hi
          refine Ev.step (fun k => by simp only [waveletlaw47_MetaAccess.l0]; rw [if_neg (by omega)]) (Ev.bind (rget_ev key l (by omega)) ?_)
          by_cases hin : In key l
          · exact Ev.congr (fun k => by rw [if_pos (getL_in Al hin)]) awake_bind
          · rw [getL_miss hin]
            have hff : ¬ ((emptyS, false) : ByteArray × Bool).2 = true := by simp
            refine Ev.congr (fun k => by rw [if_neg hff]) (Ev.bind (mdel_ev m key) ?_)
            have hd : delP m key = (l, 0) := by
              unfold delP
              rw [if_pos hcm, if_pos (any_in.2 ⟨⟨key, v⟩, (mem _).2 (Or.inl rfl), rfl⟩)]
              refine congrArg (·, (0 : Int)) (asc_ext (dl_asc Am) Al fun z => ?_)
              rw [dl_mem, mem]
              constructor
              · rintro ⟨rfl | h, h2⟩
                · exact absurd rfl h2
                · exact h.1
              · intro h
                have hz : ¬ z.f0 = key := fun e => hin ⟨z, h, e⟩
                exact ⟨Or.inr ⟨h, hz⟩, hz⟩
            rw [hd]
            refine Ev.congr (fun k => by rw [if_pos rfl]) (Ev.bind (same_ok l (by omega)) ?_)
            exact Ev.congr (fun k => by rw [if_pos rfl]) awake_bind
        | succ d ih =>
          intro i hi
          have hlt : i < l.length := by omega
          have hn := ih (i + 1) (by omega)
          refine Ev.step (fun k => by simp only [waveletlaw47_MetaAccess.l0]; rw [if_pos (by omega), if_pos (by omega), if_pos (by omega), rd_nat l i hlt, wrap_id (by omega) (by omega)]) (Ev.bind (get_ev l[i].f0 m (by omega)) ?_)
          by_cases hk : l[i].f0.toList = key.toList
          · exact Ev.congr (fun k => by rw [if_pos hk]; rfl) hn
          · have hne : ¬ l[i].f0 = key := fun e => hk (by rw [e])
            have hg : getL l[i].f0 m = (l[i].f1, true) := getL_mem Am ((mem _).2 (Or.inr ⟨List.getElem_mem hlt, hne⟩))
            rw [hg]
            exact Ev.congr (fun k => by rw [if_neg hk, if_pos rfl, if_pos rfl]; rfl) hn
      refine Ev.congr (fun k => by rw [if_pos rfl]) (Ev.bind (get_ev key m (by omega)) ?_)
      rw [gk]
      have hb : (v.toList != v.toList) = false := by simp
      refine Ev.congr (f := fun k => waveletlaw47_MetaAccess.j1 k l key m false) (fun k => by rw [if_pos rfl, hb]) ?_
      exact Ev.step (fun k => by simp only [waveletlaw47_MetaAccess.j1]; rw [if_neg (by simp)]; rfl) (loop l.length 0 (by omega))
    · exact Ev.congr (fun k => by rw [if_neg he]) awake_bind
  refine Ev.congr (fun k => by simp only [waveletlaw47_MetaAccess.f]; rfl) (Ev.bind hf ?_)
  cases f with
  | false => exact Ev.congr (fun k => by rw [if_neg (by simp)]) jt
  | true =>
    refine Ev.congr (fun k => by rw [if_pos rfl]) (Ev.bind hg ?_)
    cases g with
    | false => exact jt
    | true => exact jf
end Go.Proofs.Ytnckglnnojcdmaa.P
