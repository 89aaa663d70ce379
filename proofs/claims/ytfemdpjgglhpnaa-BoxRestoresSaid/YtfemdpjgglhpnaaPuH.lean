/- What the reference's Count, valid, size, write and Write answer, in plain terms; the law BoxWrites. -/
import Derived.Test.YtfemdpjgglhpnaaPuG
import Derived.Test.YtfemdpjgglhpnaaPx10
set_option linter.unusedVariables false
set_option linter.unusedSimpArgs false
namespace Go.Proofs.Ytfemdpjgglhpnaa.P
open Go.RowKit Go.Proofs.YtfemdpjgglhpnaaW.PrintWords

theorem rcount_loop (l : List S37) (ih : ∀ x ∈ l, cntL x.f2 ≤ 1000000000 → Ev (fun k => waveletref45_Count.f k x.f2) (cntL x.f2 : Int)) (d : Nat) :
    ∀ (i n : Nat), i + d = l.length → l.length ≤ 1000000000 → n + insL (l.drop i) ≤ 1000000000 → Ev (fun k => waveletref45_Count.l0 k l (n : Int) (i : Int)) ((n + insL (l.drop i) : Nat) : Int) := by
  induction d with
  | zero =>
    intro i n hd hl hs
    have e : insL (l.drop i) = 0 := by rw [List.drop_eq_nil_of_le (by omega), insL]
    rw [e, Nat.add_zero]
    have h1 : ¬ (i : Int) < (l.length : Int) := by clear hs e; omega
    exact Ev.const fun k => by rw [waveletref45_Count.l0, if_neg h1]
  | succ d ihd =>
    intro i n hd hl hs
    have hil : i < l.length := by clear hs; omega
    have h1 := insL_at l i hil
    have hI := ih _ (rd_mem hil)
    have hN := ihd (i + 1) (n + cntL (rd_T37 l (i : Int)).f2) (by clear hs h1; omega) hl
    have b1 : (i : Int) < (l.length : Int) := by clear hs h1 hN hI; omega
    have b2 : (0 : Int) ≤ (i : Int) := Int.natCast_nonneg _
    have hw := nat_succ i (by clear hs h1 hN hI; omega)
    have hgo : ∀ k, waveletref45_Count.l0 (k + 1) l (n : Int) (i : Int) = (waveletref45_Count.f k (rd_T37 l (i : Int)).f2).bind fun t => waveletref45_Count.l0 k l (wrap64 ((n : Int) + t)) ((i + 1 : Nat) : Int) := fun k => by
      rw [waveletref45_Count.l0, if_pos b1, if_pos b2, hw]
    clear hw ih ihd
    generalize insL (l.drop i) = a at *
    generalize insL (l.drop (i + 1)) = a' at *
    generalize hc : cntL (rd_T37 l (i : Int)).f2 = c at *
    clear hc
    refine Ev.step hgo (Ev.bind (hI (by omega)) ?_)
    rw [h1, ← Nat.add_assoc]
    have h2 := hN (by omega)
    have hb : n + c ≤ 1000000000000 := by omega
    refine Ev.congr (fun k => ?_) h2
    rw [nat_add n c hb]
theorem rcount_ev (l : List S37) : cntL l ≤ 1000000000 → Ev (fun k => waveletref45_Count.f k l) (cntL l : Int) := by
  refine tree_ind (fun l => cntL l ≤ 1000000000 → Ev (fun k => waveletref45_Count.f k l) (cntL l : Int)) ?_ l
  intro l ih h
  have e := cntL_ins l
  have := rcount_loop l ih l.length 0 l.length (by omega) (by generalize cntL l = a at *; generalize insL l = b at *; omega) (by rw [List.drop_zero, ← e]; exact h)
  rw [List.drop_zero, ← e] at this
  exact Ev.step (fun k => by rw [waveletref45_Count.f]; rfl) this

theorem rsuper_f (a : ByteArray) : waveletref45_Super.f a = some (superP a) := by unfold waveletref45_Super.f superP; rw [tlB]
theorem rknown_f (a : ByteArray) : waveletref45_Known.f a = some (knownP a) := by
  unfold waveletref45_Known.f knownP
  simp only [tlB]
  repeat' split
  all_goals simp_all
theorem rvalid_loop (l : List S37) (inner : Bool) (hl : l.length ≤ 1000000000) (ih : ∀ x ∈ l, ∀ b, Ev (fun k => waveletref45_valid.f k x.f2 b) (okL b x.f2)) (d : Nat) :
    ∀ (i : Nat), i + d = l.length → Ev (fun k => waveletref45_valid.l0 k l inner (i : Int)) (okL inner (l.drop i)) := by
  induction d with
  | zero =>
    intro i hd
    rw [List.drop_eq_nil_of_le (by omega), okL]
    have h1 : ¬ (i : Int) < (l.length : Int) := by omega
    exact Ev.const fun k => by rw [waveletref45_valid.l0, if_neg h1]
  | succ d ihd =>
    intro i hd
    have hil : i < l.length := by omega
    have hI := ih _ (rd_mem hil)
    have hN := ihd (i + 1) (by omega)
    have b1 : (i : Int) < (l.length : Int) := by omega
    have b2 : (0 : Int) ≤ (i : Int) := Int.natCast_nonneg _
    have hw := nat_succ i (by omega)
    have e : okL inner (l.drop i) = (okB inner (rd_T37 l (i : Int)) && okL inner (l.drop (i + 1))) := by
      rw [List.drop_eq_getElem_cons hil, okL]
      simp [rd_T37, hil]
    rw [e, okB_eq]
    clear e ih ihd
    have hgo : ∀ k, waveletref45_valid.l0 (k + 1) l inner (i : Int) = (waveletref45_Known.f (rd_T37 l (i : Int)).f0).bind fun t => if t = true then ((waveletref45_Super.f (rd_T37 l (i : Int)).f0).bind fun t2 => if t2 = true then (if inner = true then some false else if ((rd_T37 l (i : Int)).f1.length : Int) > 0 then some false else (waveletref45_valid.f k (rd_T37 l (i : Int)).f2 true).bind fun t3 => if t3 = true then waveletref45_valid.l0 k l inner ((i + 1 : Nat) : Int) else some false) else if ((rd_T37 l (i : Int)).f2.length : Int) > 0 then some false else waveletref45_valid.l0 k l inner ((i + 1 : Nat) : Int)) else some false := fun k => by
      rw [waveletref45_valid.l0, if_pos b1, if_pos b2, hw]
    generalize rd_T37 l (i : Int) = x at *
    clear hw b1 b2
    simp only [rknown_f, rsuper_f, Option.bind_some] at hgo
    cases hk : knownP x.f0 with
    | false => exact Ev.const (r := false) fun k => by rw [hgo, hk, if_neg (by decide)]
    | true =>
      cases hs : superP x.f0 with
      | true =>
        cases inner with
        | true => exact Ev.const (r := false) fun k => by rw [hgo, hk, hs, if_pos rfl, if_pos rfl, if_pos rfl]
        | false =>
          by_cases hp : (x.f1.length : Int) > 0
          · have he : x.f1.isEmpty = false := by cases hx : x.f1 with
              | nil => rw [hx] at hp; simp at hp
              | cons a b => rfl
            rw [he]
            exact Ev.const (r := false) fun k => by rw [hgo, hk, hs, if_pos rfl, if_pos rfl, if_neg (by decide), if_pos hp]
          · have he : x.f1.isEmpty = true := by cases hx : x.f1 with
              | nil => rfl
              | cons a b => rw [hx] at hp; simp at hp
            rw [he]
            show Ev _ (okL true x.f2 && okL false (l.drop (i + 1)))
            refine Ev.step (f := fun k => (waveletref45_valid.f k x.f2 true).bind fun t3 => if t3 = true then waveletref45_valid.l0 k l false ((i + 1 : Nat) : Int) else some false) (fun k => by rw [hgo, hk, hs, if_pos rfl, if_pos rfl, if_neg (by decide), if_neg hp]) (Ev.bind (hI true) ?_)
            cases hq : okL true x.f2 with
            | false => exact Ev.now false
            | true => exact hN
      | false =>
        by_cases hp : (x.f2.length : Int) > 0
        · have he : x.f2.isEmpty = false := by cases hx : x.f2 with
            | nil => rw [hx] at hp; simp at hp
            | cons a b => rfl
          rw [he]
          exact Ev.const (r := false) fun k => by rw [hgo, hk, hs, if_pos rfl, if_neg (by decide), if_pos hp]
        · have he : x.f2.isEmpty = true := by cases hx : x.f2 with
            | nil => rfl
            | cons a b => rw [hx] at hp; simp at hp
          rw [he]
          show Ev _ (okL inner (l.drop (i + 1)))
          exact Ev.step (f := fun k => waveletref45_valid.l0 k l inner ((i + 1 : Nat) : Int)) (fun k => by rw [hgo, hk, hs, if_pos rfl, if_neg (by decide), if_neg hp]) hN
theorem rvalid_ev (l : List S37) : cntL l ≤ 1000000000 → ∀ b, Ev (fun k => waveletref45_valid.f k l b) (okL b l) := by
  refine tree_ind (fun l => cntL l ≤ 1000000000 → ∀ b, Ev (fun k => waveletref45_valid.f k l b) (okL b l)) ?_ l
  intro l ih h b
  have e := cntL_ins l
  have hn : l.length ≤ 1000000000 := by generalize cntL l = a at *; generalize insL l = c at *; omega
  have hq : ∀ x ∈ l, cntL x.f2 ≤ 1000000000 := fun x hx => by
    have := cntL_mem hx
    generalize cntL l = a at *; generalize insL l = c at *; generalize cntL x.f2 = q at *; omega
  have := rvalid_loop l b hn (fun x hx => ih x hx (hq x hx)) l.length 0 (by omega)
  rw [List.drop_zero] at this
  exact Ev.step (fun k => by rw [waveletref45_valid.f]; rfl) this

theorem rsize_sum (n p q : Nat) (h : n + (8 + p + q) ≤ 67108864) : wrap64 ((wrap64 ((wrap64 ((n : Int) + 8)) + (p : Int))) + (q : Int)) = ((n + (8 + p + q) : Nat) : Int) := by
  have b1 : -9223372036854775808 ≤ (n : Int) + 8 := by omega
  have b2 : (n : Int) + 8 ≤ 9223372036854775807 := by omega
  have b3 : -9223372036854775808 ≤ (n : Int) + 8 + (p : Int) := by omega
  have b4 : (n : Int) + 8 + (p : Int) ≤ 9223372036854775807 := by omega
  have b5 : -9223372036854775808 ≤ (n : Int) + 8 + (p : Int) + (q : Int) := by omega
  have b6 : (n : Int) + 8 + (p : Int) + (q : Int) ≤ 9223372036854775807 := by omega
  rw [wrap64_id b1 b2, wrap64_id b3 b4, wrap64_id b5 b6]
  clear b1 b2 b3 b4 b5 b6 h
  omega
theorem rsize_loop (l : List S37) (hl : l.length ≤ 1000000000) (ih : ∀ x ∈ l, szL x.f2 ≤ 67108864 → Ev (fun k => waveletref45_size.f k x.f2) (szL x.f2 : Int)) (d : Nat) :
    ∀ (i : Nat) (n : Nat), i + d = l.length → n + szL (l.drop i) ≤ 67108864 → Ev (fun k => waveletref45_size.l0 k l (n : Int) (i : Int)) ((n + szL (l.drop i) : Nat) : Int) := by
  induction d with
  | zero =>
    intro i n hd hs
    refine Ev.succ ⟨0, fun k _ => ?_⟩
    show waveletref45_size.l0 (k + 1) l (n : Int) (i : Int) = _
    rw [waveletref45_size.l0, if_neg (by omega), List.drop_eq_nil_of_le (by omega), szL]
    rfl
  | succ d ihd =>
    intro i n hd hs
    have hil : i < l.length := by omega
    have hx := rd_mem hil
    have h1 := szL_at l i hil
    have h2 := szB_eq (rd_T37 l (i : Int))
    have hi2 := ihd (i + 1) (n + szB (rd_T37 l (i : Int))) (by omega)
    have hI := ih _ hx
    have hgo : ∀ k, waveletref45_size.l0 (k + 1) l (n : Int) (i : Int) = (waveletref45_size.f k (rd_T37 l (i : Int)).f2).bind fun t => waveletref45_size.l0 k l (wrap64 ((wrap64 ((wrap64 ((n : Int) + 8)) + ((rd_T37 l (i : Int)).f1.length : Int))) + t)) (wrap64 ((i : Int) + 1)) := by
      intro k
      have b1 : (i : Int) < (l.length : Int) := by clear h1 h2 hi2 hI hs ih ihd; omega
      have b2 : 0 ≤ (i : Int) := Int.natCast_nonneg _
      rw [waveletref45_size.l0, if_pos b1, if_pos b2]
    generalize szL (l.drop i) = a at *
    generalize szL (l.drop (i + 1)) = a' at *
    generalize szB (rd_T37 l (i : Int)) = b at *
    generalize hq : szL (rd_T37 l (i : Int)).f2 = q at *
    generalize (rd_T37 l (i : Int)).f1.length = p at *
    clear ihd ih hq
    obtain ⟨K1, hK1⟩ := hI (by omega)
    obtain ⟨K2, hK2⟩ := hi2 (by omega)
    refine Ev.succ ⟨max K1 K2, fun k hk => ?_⟩
    have e1 : waveletref45_size.f k (rd_T37 l (i : Int)).f2 = some (q : Int) := hK1 k (by omega)
    have e2 : waveletref45_size.l0 k l ((n + b : Nat) : Int) ((i + 1 : Nat) : Int) = _ := hK2 k (by omega)
    have e3 : n + b + a' = n + a := by omega
    have e4 : n + (8 + p + q) ≤ 67108864 := by omega
    have b5 : -9223372036854775808 ≤ (i : Int) + 1 := by omega
    have b6 : (i : Int) + 1 ≤ 9223372036854775807 := by omega
    show waveletref45_size.l0 (k + 1) l (n : Int) (i : Int) = _
    rw [hgo, e1, Option.bind_some, rsize_sum n p q e4, ← h2, wrap64_id b5 b6, show (i : Int) + 1 = ((i + 1 : Nat) : Int) from rfl, e2, e3]
theorem rsize_ev (l : List S37) : szL l ≤ 67108864 → Ev (fun k => waveletref45_size.f k l) (szL l : Int) := by
  refine tree_ind (fun l => szL l ≤ 67108864 → Ev (fun k => waveletref45_size.f k l) (szL l : Int)) ?_ l
  intro l ih hs
  have h8 := length_le_sz l
  have := rsize_loop l (by generalize szL l = a at *; omega) ih l.length 0 0 (by omega) (by simpa using hs)
  rw [List.drop_zero, Nat.zero_add] at this
  exact Ev.step (fun k => by rw [waveletref45_size.f]; rfl) this

theorem one_cut (l : List S37) (i : Nat) (h : i < l.length) : (l.take (i + 1)).drop i = [rd_T37 l (i : Int)] := by
  have e : rd_T37 l (i : Int) = l[i] := by simp [rd_T37, h]
  rw [List.drop_take, show i + 1 - i = 1 by omega, List.drop_eq_getElem_cons h, List.take_succ_cons, List.take_zero, e]
theorem rwrite_loop (l : List S37) (inner : Bool) (hok : okL inner l = true) (hl : l.length ≤ 1000000000) (hs : szL l ≤ 67108864)
    (ih : ∀ x ∈ l, ∀ b, okL b x.f2 = true → szL x.f2 ≤ 67108864 → Ev (fun k => waveletref45_write.f k x.f2) (wrL x.f2)) (d : Nat) :
    ∀ (i : Nat), i + d = l.length → Ev (fun k => waveletref45_write.l0 k l (wrL (l.take i)) (i : Int)) (wrL l) := by
  induction d with
  | zero =>
    intro i hd
    rw [List.take_of_length_le (by omega)]
    exact Ev.const fun k => by rw [waveletref45_write.l0, if_neg (by omega)]
  | succ d ihd =>
    intro i hd
    have hil : i < l.length := by omega
    have hx := rd_mem hil
    have hob := okL_get hok _ hx
    have hin := okB_inner hob
    have hkn := (knownP_ascii (okB_known hob)).1
    have hsz := szL_mem hx
    have hse := szB_eq (rd_T37 l (i : Int))
    have hI := ih _ hx true hin
    have hN := ihd (i + 1) (by omega)
    rw [wrL_take l i hil, wrB_eq] at hN
    have hlt := wrL_length (i := inner) (l := l.take i) (okL_left (m := l.drop i) (by rw [List.take_append_drop]; exact hok))
    have hsp := szL_split l i
    have hat := szL_at l i hil
    have hwl := wrL_length (l := (rd_T37 l (i : Int)).f2) hin
    have hZ := rsize_ev [rd_T37 l (i : Int)]
    have hz1 : szL [rd_T37 l (i : Int)] = szB (rd_T37 l (i : Int)) := by rw [szL, szL, Nat.add_zero]
    rw [hz1] at hZ
    have b1 : (i : Int) < (l.length : Int) := by omega
    have b2 : (0 : Int) ≤ (i : Int) := Int.natCast_nonneg _
    have hw := nat_succ i (by omega)
    have b3 : (i : Int) ≤ ((i + 1 : Nat) : Int) := by omega
    have b4 : ((i + 1 : Nat) : Int) ≤ (l.length : Int) := by omega
    have hcut : ((l.take (((i + 1 : Nat) : Int)).toNat).drop ((i : Int)).toNat) = [rd_T37 l (i : Int)] := by
      rw [Int.toNat_natCast, Int.toNat_natCast]; exact one_cut l i hil
    have hgo : ∀ k, waveletref45_write.l0 (k + 1) l (wrL (l.take i)) (i : Int) = ((waveletref45_size.f k [rd_T37 l (i : Int)]).bind fun t289 => ((some (([(t289 / 16777216) % 256, (t289 / 65536) % 256, (t289 / 256) % 256, (t289) % 256] : List Int) : List Int)).bind fun y290 => (if (wrL (l.take i)).length + y290.length < 140737488355328 then ((some (wrL (l.take i) ++ y290 : List Int)).bind fun y293 => (if y293.length + ((rd_T37 l (i : Int)).f0).size < 140737488355328 then ((some (y293 ++ bytesOf ((rd_T37 l (i : Int)).f0) : List Int)).bind fun y297 => (if y297.length + ((rd_T37 l (i : Int)).f1).length < 140737488355328 then ((some (y297 ++ ((rd_T37 l (i : Int)).f1) : List Int)).bind fun y301 => ((waveletref45_write.f k ((rd_T37 l (i : Int)).f2)).bind fun t305 => (if y301.length + t305.length < 140737488355328 then (waveletref45_write.l0 k l (y301 ++ t305) ((i + 1 : Nat) : Int)) else (none)))) else (none))) else (none))) else (none)))) := fun k => by
      rw [waveletref45_write.l0, if_pos b1, if_pos b2, hw, if_pos b3, if_pos b4, hcut]
    clear hw hcut ih ihd b1 b2 b3 b4 hz1
    have hbl : (bytesOf (rd_T37 l (i : Int)).f0).length = 4 := by rw [bytesOf_length]; exact hkn
    generalize rd_T37 l (i : Int) = x at *
    generalize szL l = a at *
    generalize szL (l.take i) = a1 at *
    generalize szL (l.drop i) = a2 at *
    generalize szL (l.drop (i + 1)) = a3 at *
    generalize hb : szB x = b at *
    generalize hq : szL x.f2 = q at *
    generalize hwt : wrL (l.take i) = W at *
    generalize hwx : wrL x.f2 = V at *
    refine Ev.step hgo (Ev.bind (hZ (by omega)) ?_)
    have l1 : W.length + ([((b : Int) / 16777216) % 256, ((b : Int) / 65536) % 256, ((b : Int) / 256) % 256, (b : Int) % 256] : List Int).length < 140737488355328 := by show W.length + 4 < _; omega
    have l2 : (W ++ ([((b : Int) / 16777216) % 256, ((b : Int) / 65536) % 256, ((b : Int) / 256) % 256, (b : Int) % 256] : List Int)).length + x.f0.size < 140737488355328 := by rw [List.length_append]; show W.length + 4 + _ < _; omega
    have l3 : (W ++ ([((b : Int) / 16777216) % 256, ((b : Int) / 65536) % 256, ((b : Int) / 256) % 256, (b : Int) % 256] : List Int) ++ bytesOf x.f0).length + x.f1.length < 140737488355328 := by rw [List.length_append, List.length_append, hbl]; show W.length + 4 + 4 + _ < _; omega
    have l4 : (W ++ ([((b : Int) / 16777216) % 256, ((b : Int) / 65536) % 256, ((b : Int) / 256) % 256, (b : Int) % 256] : List Int) ++ bytesOf x.f0 ++ x.f1).length + V.length < 140737488355328 := by rw [List.length_append, List.length_append, List.length_append, hbl]; show W.length + 4 + 4 + _ + _ < _; omega
    have hV := hI (by omega)
    refine Ev.congr (f := fun k => (waveletref45_write.f k x.f2).bind fun t305 => if (W ++ ([((b : Int) / 16777216) % 256, ((b : Int) / 65536) % 256, ((b : Int) / 256) % 256, (b : Int) % 256] : List Int) ++ bytesOf x.f0 ++ x.f1).length + t305.length < 140737488355328 then waveletref45_write.l0 k l (W ++ ([((b : Int) / 16777216) % 256, ((b : Int) / 65536) % 256, ((b : Int) / 256) % 256, (b : Int) % 256] : List Int) ++ bytesOf x.f0 ++ x.f1 ++ t305) ((i + 1 : Nat) : Int) else none) (fun k => ?_) (Ev.bind hV ?_)
    · rw [Option.bind_some, if_pos l1, Option.bind_some, if_pos l2, Option.bind_some, if_pos l3, Option.bind_some]
    · refine Ev.congr (fun k => by rw [if_pos l4]) ?_
      rw [← hse] at hN
      simp only [← List.append_assoc] at hN
      exact hN
theorem rwrite_ev (l : List S37) : ∀ b, okL b l = true → szL l ≤ 67108864 → Ev (fun k => waveletref45_write.f k l) (wrL l) := by
  refine tree_ind (fun l => ∀ b, okL b l = true → szL l ≤ 67108864 → Ev (fun k => waveletref45_write.f k l) (wrL l)) ?_ l
  intro l ih b hok hs
  have h8 := length_le_sz l
  have := rwrite_loop l b hok (by generalize szL l = a at *; omega) hs ih l.length 0 (by omega)
  rw [List.take_zero, wrL] at this
  exact Ev.step (fun k => by rw [waveletref45_write.f]; rfl) this
theorem rWrite_ev (l : List S37) (h1 : cntL l ≤ 1000000000) (h2 : szL l ≤ 67108864) : Ev (fun k => waveletref45_Write.f k l) (writeP l) := by
  unfold writeP
  unfold waveletref45_Write.f
  refine Ev.bind (rcount_ev l h1) ?_
  by_cases hc : 256 < cntL l
  · rw [if_pos hc]
    have : (cntL l : Int) > 256 := by generalize cntL l = a at *; omega
    exact Ev.congr (fun k => by rw [if_pos this]) (Ev.now _)
  · rw [if_neg hc]
    have hc2 : ¬ (cntL l : Int) > 256 := by generalize cntL l = a at *; omega
    refine Ev.congr (fun k => by rw [if_neg hc2]) (Ev.bind (rvalid_ev l h1 false) ?_)
    cases ho : okL false l with
    | false => exact Ev.congr (fun k => by rw [if_neg (by decide)]) (by rw [if_neg (by decide)]; exact Ev.now _)
    | true =>
      have hs : ¬ (szL l : Int) > 67108864 := by generalize szL l = a at *; omega
      refine Ev.congr (fun k => by rw [if_pos rfl]) (Ev.bind (rsize_ev l h2) ?_)
      refine Ev.congr (fun k => by rw [if_neg hs]) (Ev.bind (rwrite_ev l false ho h2) ?_)
      rw [if_pos rfl]
      exact Ev.now _
theorem law_writes (l : List S37) : Ev (fun k => waveletlaw45_BoxWrites.f k l) true := by
  unfold waveletlaw45_BoxWrites.f
  refine Ev.bind (Few_ev l) ?_
  cases hf : FewB l with
  | false => exact Ev.congr (fun k => by rw [if_neg (by decide)]; rfl) (Ev.now true)
  | true =>
    obtain ⟨h1, h2⟩ := FewB_small hf
    have c1 : cntL l ≤ 1000000000 := Nat.le_trans h1 (by omega)
    have c2 : szL l ≤ 67108864 := Nat.le_trans h2 (by omega)
    refine Ev.congr (fun k => by rw [if_pos rfl]) (Ev.bind (write_ev l c1 c2) (Ev.bind (rWrite_ev l c1 c2) ?_))
    refine Ev.congr (fun k => by rw [if_pos rfl, if_pos rfl]) (Ev.bind (count_ev l c1) (Ev.bind (rcount_ev l c1) ?_))
    exact Ev.congr (fun k => by rw [if_pos rfl]; rfl) (Ev.now true)
end Go.Proofs.Ytfemdpjgglhpnaa.P
