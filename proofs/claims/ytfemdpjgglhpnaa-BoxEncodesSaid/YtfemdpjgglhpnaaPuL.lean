/- What was read is written back, and two lists can be joined: the law BoxEncodes. -/
import Derived.Test.YtfemdpjgglhpnaaPuN
import Derived.Test.YtfemdpjgglhpnaaPx15
set_option linter.unusedVariables false
set_option linter.unusedSimpArgs false
namespace Go.Proofs.Ytfemdpjgglhpnaa.P
open Go.RowKit Go.Proofs.YtfemdpjgglhpnaaW.PrintWords

theorem enc2_t (a b : List Int) (l m : List S37) : Ev (fun k => waveletlaw45_BoxEncodes.j2 k a b l m true) true :=
  Ev.const (fun k => by rw [waveletlaw45_BoxEncodes.j2, if_pos rfl]; rfl)
theorem sz_len {l : List S37} {a : List Int} (hl : okL false l = true) (wl : wrL l = a) : 8 * l.length ≤ a.length ∧ szL l = a.length := by
  have h1 := wrL_length hl
  have h2 := length_le_sz l
  rw [wl] at h1
  generalize szL l = s at *
  omega
theorem enc2_f (a b : List Int) (l m : List S37) (hA : Byt a) (hB : Byt b) (hl : okL false l = true) (wl : wrL l = a) (hm : okL false m = true) (wm : wrL m = b) (hc : cntL l + cntL m ≤ 256) (ha : a.length ≤ 20000) (hb : b.length ≤ 20000) :
    Ev (fun k => waveletlaw45_BoxEncodes.j2 k a b l m false) true := by
  have hp := parse_ev (a ++ b) (fun z hz => (List.mem_append.1 hz).elim (hA z) (hB z)) (by rw [List.length_append]; omega)
  rw [parse_join hl wl hm wm hc (by omega)] at hp
  have s1 := (sz_len hl wl).1
  have s2 := (sz_len hm wm).1
  have s : box_Same.f (l ++ m) (l ++ m) = some true := by unfold box_Same.f; rw [sameL_refl]
  have e1 : ([] : List Int).length + a.length < 140737488355328 := by rw [List.length_nil]; omega
  have e2 : a.length + b.length < 140737488355328 := by omega
  have e3 : ([] : List S37).length + l.length < 2199023255552 := by rw [List.length_nil]; omega
  have e4 : l.length + m.length < 2199023255552 := by omega
  have e5 : ((l ++ m).length : Int) = wrap64 ((l.length : Int) + (m.length : Int)) := by rw [wrap64_id (by omega) (by omega), List.length_append]; omega
  refine Ev.succ (Ev.congr (fun k => by rw [waveletlaw45_BoxEncodes.j2, if_neg (by decide), Option.bind_some, if_pos e1, Option.bind_some, List.nil_append, if_pos e2]) (Ev.bind hp ?_))
  exact Ev.congr (fun k => by rw [if_pos rfl, Option.bind_some, if_pos e3, Option.bind_some, List.nil_append, if_pos e4, s, Option.bind_some, if_pos rfl, if_pos e5]; rfl) (Ev.now true)
theorem enc1 (a b : List Int) (l : List S37) (hA : Byt a) (hB : Byt b) (hl : okL false l = true) (wl : wrL l = a) (hc : cntL l ≤ 256) (ha : a.length ≤ 20000) (hb : b.length ≤ 20000) :
    Ev (fun k => waveletlaw45_BoxEncodes.j1 k a b l false) true := by
  have hp := parse_ev b hB (by omega)
  refine Ev.succ (Ev.congr (fun k => by rw [waveletlaw45_BoxEncodes.j1, if_neg (by decide)]) (Ev.bind hp ?_))
  by_cases h0 : (parseP b).2 = 0
  · obtain ⟨hm, wm, hn⟩ := parseP_back hB h0
    have c1 := count_ev l (Nat.le_trans hc (by omega))
    have c2 := count_ev (parseP b).1 (Nat.le_trans hn (by omega))
    refine Ev.congr (fun k => by rw [if_pos h0]) (Ev.bind c1 (Ev.bind c2 ?_))
    rw [nat_add (cntL l) (cntL (parseP b).1) (Nat.le_trans (Nat.add_le_add hc hn) (by omega))]
    by_cases hj : cntL l + cntL (parseP b).1 ≤ 256
    · rw [decide_eq_false (by generalize cntL l = p at *; generalize cntL (parseP b).1 = q at *; omega)]
      exact enc2_f a b l _ hA hB hl wl hm wm hj ha hb
    · rw [decide_eq_true (by generalize cntL l = p at *; generalize cntL (parseP b).1 = q at *; omega)]
      exact enc2_t _ _ _ _
  · exact Ev.congr (fun k => by rw [if_neg h0]) (enc2_t _ _ _ _)
theorem law_encodes (a b : List Int) (hA : Byt a) (hB : Byt b) : Ev (fun k => waveletlaw45_BoxEncodes.f k a b) true := by
  have ht : Ev (fun k => waveletlaw45_BoxEncodes.j0 k a b true) true := Ev.const (fun k => by rw [waveletlaw45_BoxEncodes.j0, if_pos rfl]; rfl)
  unfold waveletlaw45_BoxEncodes.f
  by_cases ha : (a.length : Int) > 20000
  · exact Ev.congr (fun k => by rw [if_pos ha]) ht
  refine Ev.congr (fun k => by rw [if_neg ha]) ?_
  by_cases hb : (b.length : Int) > 20000
  · rw [decide_eq_true hb]; exact ht
  rw [decide_eq_false hb]
  have hp := parse_ev a hA (by omega)
  refine Ev.succ (Ev.congr (fun k => by rw [waveletlaw45_BoxEncodes.j0, if_neg (by decide)]) (Ev.bind hp ?_))
  by_cases h0 : (parseP a).2 = 0
  · obtain ⟨hm, wm, hn⟩ := parseP_back hA h0
    have hs := sz_len hm wm
    have w1 := write_ev (parseP a).1 (Nat.le_trans hn (by omega)) (by rw [hs.2]; omega)
    have e : writeP (parseP a).1 = (a, 0) := by unfold writeP; rw [if_neg (Nat.not_lt.2 hn), hm, if_pos rfl, wm]
    rw [e] at w1
    refine Ev.congr (fun k => by rw [if_pos h0]) (Ev.bind w1 ?_)
    refine Ev.congr (fun k => by rw [if_pos rfl, bne_self_eq_false]) ?_
    exact enc1 a b _ hA hB hm wm hn (by omega) (by omega)
  · have hz : ((parseP a).1.length : Int) = 0 := by rw [parseP_err hA h0]; rfl
    exact Ev.congr (fun k => by rw [if_neg h0, if_pos hz]; rfl) (Ev.now true)
end Go.Proofs.Ytfemdpjgglhpnaa.P
