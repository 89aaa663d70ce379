/- What the reference's parse and Parse answer, in plain terms: the law BoxParses. -/
import Derived.Test.YtfemdpjgglhpnaaPuK
import Derived.Test.YtfemdpjgglhpnaaPuD
import Derived.Test.YtfemdpjgglhpnaaPx13
set_option linter.unusedVariables false
set_option linter.unusedSimpArgs false
namespace Go.Proofs.Ytfemdpjgglhpnaa.P
open Go.RowKit Go.Proofs.YtfemdpjgglhpnaaW.PrintWords

def stepQ (k : Nat) (x0 : List Int) (inner : Bool) (acc : List S37) (n at_ : Nat) (b : List Int) : Option (List S37 × Int × Int) :=
  if b.length = 0 then some (acc, n, 0)
  else if b.length < 8 then some ([], 0, 7)
  else if (decide (be4v b < 8) || !knownP (kindP b) || (inner && superP (kindP b))) = true then some ([], 0, 20)
  else if (b.length : Int) < be4v b then some ([], 0, 7)
  else if 256 < n + 1 then some ([], 0, 5)
  else if superP (kindP b) = true then
    (waveletref45_parse.f k ((b.take (be4v b).toNat).drop 8) true ((n + 1 : Nat) : Int)).bind fun x =>
      if x.2.2 = 0 then waveletref45_parse.l0 k x0 inner (acc ++ [⟨kindP b, [], x.1⟩]) x.2.1 ((at_ + (be4v b).toNat : Nat) : Int) else some ([], 0, x.2.2)
  else waveletref45_parse.l0 k x0 inner (acc ++ [⟨kindP b, (b.take (be4v b).toNat).drop 8, []⟩]) ((n + 1 : Nat) : Int) ((at_ + (be4v b).toNat : Nat) : Int)
theorem rparse_flag (k : Nat) (x0 : List Int) (inner : Bool) (acc : List S37) (n : Int) (at_ : Nat) (hB : Byt x0) (hat : at_ < x0.length) (h8 : ¬ ((x0.drop at_).length : Int) < 8) :
    waveletref45_parse.l0 (k + 1) x0 inner acc n (at_ : Int) = waveletref45_parse.j1 k x0 inner acc n (at_ : Int) (x0.drop at_) (be4v (x0.drop at_)) (kindP (x0.drop at_)) (decide (be4v (x0.drop at_) < 8) || !knownP (kindP (x0.drop at_)) || (inner && superP (kindP (x0.drop at_)))) := by
  have e : strOfNums (((x0.drop at_).take 8).drop 4) = kindP (x0.drop at_) := rfl
  have hb := be4v_bits (hB.drop at_)
  rw [waveletref45_parse.l0, if_pos (by omega), if_pos (by omega), if_pos (by omega), Option.bind_some, Int.toNat_natCast]
  generalize x0.drop at_ = b at *
  rw [if_neg h8, if_pos (by omega), if_pos (by omega), if_pos (by omega), if_pos (by omega), if_pos (by omega), if_pos (by omega), Option.bind_some, hb, e, rknown_f, Option.bind_some, rsuper_f]
  by_cases h : be4v b < 8
  · rw [if_pos h, decide_eq_true h]; rfl
  · rw [if_neg h, decide_eq_false h]
    cases knownP (kindP b) with
    | false => rfl
    | true =>
      cases inner with
      | false => cases superP (kindP b) <;> rfl
      | true => cases superP (kindP b) <;> rfl
theorem rparse_step (k : Nat) (x0 : List Int) (inner : Bool) (acc : List S37) (n at_ : Nat) (hB : Byt x0) (hb : x0.length ≤ 100000000) (hat : at_ ≤ x0.length) (ha : acc.length ≤ 100000000) (hn : n ≤ 1000) :
    waveletref45_parse.l0 (k + 2) x0 inner acc (n : Int) (at_ : Int) = stepQ k x0 inner acc n at_ (x0.drop at_) := by
  have hld : (x0.drop at_).length = x0.length - at_ := List.length_drop
  unfold stepQ
  by_cases h0 : (x0.drop at_).length = 0
  · rw [if_pos h0, waveletref45_parse.l0, if_neg (by omega)]
  rw [if_neg h0]
  by_cases h8 : (x0.drop at_).length < 8
  · rw [if_pos h8, waveletref45_parse.l0, if_pos (by omega), if_pos (by omega), if_pos (by omega), Option.bind_some, Int.toNat_natCast, if_pos (by omega)]
  rw [if_neg h8, rparse_flag (k + 1) x0 inner acc n at_ hB (by omega) (by omega)]
  have hbv := be4v_bd (hB.drop at_)
  generalize x0.drop at_ = b at *
  rw [waveletref45_parse.j1]
  by_cases hf : (decide (be4v b < 8) || !knownP (kindP b) || (inner && superP (kindP b))) = true
  · rw [if_pos hf, if_pos hf]
  rw [if_neg hf, if_neg hf]
  have h8v : 8 ≤ be4v b := by
    simp only [Bool.or_eq_true, decide_eq_true_eq, not_or] at hf
    have := hf.1.1
    omega
  by_cases hl : (b.length : Int) < be4v b
  · rw [if_pos hl, if_pos hl]
  have hwa : wrap64 ((at_ : Int) + be4v b) = ((at_ + (be4v b).toNat : Nat) : Int) := by
    rw [wrap64_id (by omega) (by omega)]; omega
  have HWA := Lib.hid hwa
  clear hwa
  rw [if_neg hl, if_neg hl, nat_succ n (by omega)]
  by_cases hc : 256 < n + 1
  · rw [if_pos hc, if_pos (by omega)]
  rw [if_neg hc, if_neg (by omega), rsuper_f, Option.bind_some, HWA.out]
  by_cases hs : superP (kindP b) = true
  · rw [if_pos hs, if_pos hs, if_pos h8v, if_pos (by omega)]
    congr 1
    funext x
    by_cases he : x.2.2 = 0
    · rw [if_pos he, if_pos he, if_pos (by omega)]
    · rw [if_neg he, if_neg he]
  · have hd : (([] : List Int) : List Int).length + ((b.take (be4v b).toNat).drop 8).length < 140737488355328 := by rw [List.length_nil, List.length_drop, List.length_take]; omega
    rw [if_neg hs, if_neg hs, Option.bind_some, if_pos h8v, if_pos (by omega), Option.bind_some, if_pos hd, if_pos (by omega), List.nil_append]

def accQ (acc : List S37) (r : List S37 × Int × Nat) : List S37 × Int × Int := if r.2.1 = 0 then (acc ++ r.1, (r.2.2 : Int), 0) else ([], 0, r.2.1)
theorem rparse_ev (f : Nat) : ∀ (x0 : List Int) (inner : Bool) (acc : List S37) (n at_ : Nat) (r : List S37 × Int × Nat), Byt x0 → x0.length ≤ 100000000 → at_ ≤ x0.length → acc.length + (x0.drop at_).length ≤ 100000000 → n ≤ 256 → prsP f (x0.drop at_) inner n = some r →
    Ev (fun k => waveletref45_parse.l0 k x0 inner acc (n : Int) (at_ : Int)) (accQ acc r) := by
  induction f with
  | zero => intro x0 inner acc n at_ r _ _ _ _ _ h; cases h
  | succ f ih =>
    intro x0 inner acc n at_ r hB hb hat ha hn h
    have hld : (x0.drop at_).length = x0.length - at_ := List.length_drop
    rw [prsP] at h
    refine Ev.succ (Ev.succ ?_)
    refine Ev.congr (fun k => rparse_step k x0 inner acc n at_ hB hb hat (by omega) (by omega)) ?_
    unfold stepQ
    have hBd := hB.drop at_
    have hbv := be4v_bd hBd
    have hdd : ∀ z, (x0.drop at_).drop z = x0.drop (at_ + z) := fun z => List.drop_drop
    generalize hbb : x0.drop at_ = b at *
    by_cases h0 : b.length = 0
    · rw [if_pos h0] at h
      obtain rfl := Option.some.inj h
      rw [show accQ acc ([], 0, n) = (acc, (n : Int), 0) by unfold accQ; rw [if_pos rfl, List.append_nil]]
      exact Ev.congr (fun k => by rw [if_pos h0]) (Ev.now _)
    rw [if_neg h0] at h
    by_cases h8 : b.length < 8
    · rw [if_pos h8] at h
      obtain rfl := Option.some.inj h
      exact Ev.congr (f := fun _ => some ([], 0, 7)) (fun k => by rw [if_neg h0, if_pos h8]) (Ev.now _)
    rw [if_neg h8] at h
    by_cases hf : (decide (be4v b < 8) || !knownP (kindP b) || (inner && superP (kindP b))) = true
    · rw [if_pos hf] at h
      obtain rfl := Option.some.inj h
      exact Ev.congr (f := fun _ => some ([], 0, 20)) (fun k => by rw [if_neg h0, if_neg h8, if_pos hf]) (Ev.now _)
    rw [if_neg hf] at h
    have h8v : 8 ≤ be4v b := by
      simp only [Bool.or_eq_true, decide_eq_true_eq, not_or] at hf
      have := hf.1.1
      omega
    by_cases hl : (b.length : Int) < be4v b
    · rw [if_pos hl] at h
      obtain rfl := Option.some.inj h
      exact Ev.congr (f := fun _ => some ([], 0, 7)) (fun k => by rw [if_neg h0, if_neg h8, if_neg hf, if_pos hl]) (Ev.now _)
    rw [if_neg hl] at h
    by_cases hc : 256 < n + 1
    · rw [if_pos hc] at h
      obtain rfl := Option.some.inj h
      exact Ev.congr (f := fun _ => some ([], 0, 5)) (fun k => by rw [if_neg h0, if_neg h8, if_neg hf, if_neg hl, if_pos hc]) (Ev.now _)
    rw [if_neg hc] at h
    have hlen : (b.drop (be4v b).toNat).length + 8 ≤ b.length := by rw [List.length_drop]; omega
    rw [hdd] at h hlen
    by_cases hs : superP (kindP b) = true
    · rw [if_pos hs] at h
      obtain ⟨x, hx, h⟩ := Option.bind_eq_some_iff.1 h
      have hxp := prsP_facts f _ _ _ x (by omega) hx
      have hx0 := ih ((b.take (be4v b).toNat).drop 8) true [] (n + 1) 0 x ((hBd.take _).drop _) (by rw [List.length_drop, List.length_take]; omega) (by omega) (by rw [List.length_nil, List.drop_zero, List.length_drop, List.length_take]; omega) (by omega) (by rw [List.drop_zero]; exact hx)
      have hxf : Ev (fun k => waveletref45_parse.f k ((b.take (be4v b).toNat).drop 8) true ((n + 1 : Nat) : Int)) (accQ [] x) := Ev.step (fun k => by rw [waveletref45_parse.f]; rfl) hx0
      refine Ev.congr (fun k => by rw [if_neg h0, if_neg h8, if_neg hf, if_neg hl, if_neg hc, if_pos hs]) (Ev.bind hxf ?_)
      by_cases he : x.2.1 = 0
      · rw [if_pos he] at h
        obtain ⟨y, hy, rfl⟩ := Option.map_eq_some_iff.1 h
        have hy0 := ih x0 inner (acc ++ [⟨kindP b, [], x.1⟩]) x.2.2 (at_ + (be4v b).toNat) y hB hb (by omega) (by rw [List.length_append, List.length_singleton]; omega) (hxp.1 he).1 hy
        have e1 : accQ [] x = (x.1, (x.2.2 : Int), 0) := by unfold accQ; rw [if_pos he, List.nil_append]
        have e2 : accQ acc (if y.2.1 = 0 then (⟨kindP b, [], x.1⟩ :: y.1, 0, y.2.2) else ([], y.2.1, y.2.2)) = accQ (acc ++ [⟨kindP b, [], x.1⟩]) y := by
          unfold accQ
          by_cases hy1 : y.2.1 = 0
          · rw [if_pos hy1, if_pos rfl, if_pos hy1, List.append_assoc]; rfl
          · rw [if_neg hy1, if_neg hy1, if_neg hy1]
        rw [e2]
        exact Ev.congr (fun k => by rw [e1, if_pos rfl]) hy0
      · rw [if_neg he] at h
        obtain rfl := Option.some.inj h
        have e1 : accQ [] x = ([], 0, x.2.1) := by unfold accQ; rw [if_neg he]
        have e2 : accQ acc (([], x.2.1, x.2.2) : List S37 × Int × Nat) = ([], 0, x.2.1) := by unfold accQ; rw [if_neg he]
        rw [e2]
        exact Ev.congr (f := fun _ => some ([], 0, x.2.1)) (fun k => by rw [e1, if_neg he]) (Ev.now _)
    · rw [if_neg hs] at h
      obtain ⟨y, hy, rfl⟩ := Option.map_eq_some_iff.1 h
      have hy0 := ih x0 inner (acc ++ [⟨kindP b, (b.take (be4v b).toNat).drop 8, []⟩]) (n + 1) (at_ + (be4v b).toNat) y hB hb (by omega) (by rw [List.length_append, List.length_singleton]; omega) (by omega) hy
      have e2 : accQ acc (if y.2.1 = 0 then (⟨kindP b, (b.take (be4v b).toNat).drop 8, []⟩ :: y.1, 0, y.2.2) else ([], y.2.1, y.2.2)) = accQ (acc ++ [⟨kindP b, (b.take (be4v b).toNat).drop 8, []⟩]) y := by
        unfold accQ
        by_cases hy1 : y.2.1 = 0
        · rw [if_pos hy1, if_pos rfl, if_pos hy1, List.append_assoc]; rfl
        · rw [if_neg hy1, if_neg hy1, if_neg hy1]
      rw [e2]
      exact Ev.congr (fun k => by rw [if_neg h0, if_neg h8, if_neg hf, if_neg hl, if_neg hc, if_neg hs]) hy0
theorem rParse_ev (b : List Int) (hB : Byt b) (hb : b.length ≤ 1000000) : Ev (fun k => waveletref45_Parse.f k b) (parseP b) := by
  obtain ⟨r, hr, h1, h2⟩ := prsP_some (b.length + 1) b false 0 hB (by omega) (by omega)
  have h := rparse_ev (b.length + 1) b false [] 0 0 r hB (by omega) (by omega) (by rw [List.length_nil, List.drop_zero]; omega) (by omega) (by rw [List.drop_zero]; exact hr)
  have hf : Ev (fun k => waveletref45_parse.f k b false 0) (accQ [] r) := Ev.step (fun k => by rw [waveletref45_parse.f]; rfl) h
  have e : parseP b = (r.1, r.2.1) := by unfold parseP; rw [hr]
  unfold waveletref45_Parse.f
  rw [e]
  refine Ev.congr (fun k => by rw [if_neg (by omega)]) (Ev.bind hf ?_)
  have e2 : ((accQ [] r).1, (accQ [] r).2.2) = (r.1, r.2.1) := by
    unfold accQ
    by_cases he : r.2.1 = 0
    · rw [if_pos he, he]; rfl
    · rw [if_neg he, h2 he]
  rw [← e2]
  exact Ev.now _
mutual
theorem sameB_refl' : ∀ x : S37, sameB x x = true
  | ⟨t, p, l⟩ => by rw [sameB, sameL_refl' l]; simp
theorem sameL_refl' : ∀ l : List S37, sameL l l = true
  | [] => by rw [sameL]
  | b :: r => by rw [sameL, sameB_refl' b, sameL_refl' r]; rfl
end
theorem law_parses (b : List Int) (hB : Byt b) : Ev (fun k => waveletlaw45_BoxParses.f k b) true := by
  unfold waveletlaw45_BoxParses.f
  by_cases h : (b.length : Int) > 20000
  · exact Ev.congr (fun k => by rw [if_pos h]; rfl) (Ev.now true)
  · have s2 : waveletref45_Same.f (parseP b).1 (parseP b).1 = some true := by unfold waveletref45_Same.f; rw [sameL_refl']
    refine Ev.congr (fun k => by rw [if_neg h]) (Ev.bind (parse_ev b hB (by omega)) (Ev.bind (rParse_ev b hB (by omega)) ?_))
    exact Ev.congr (fun k => by rw [s2, Option.bind_some, if_pos rfl, if_pos rfl]; rfl) (Ev.now true)
end Go.Proofs.Ytfemdpjgglhpnaa.P
