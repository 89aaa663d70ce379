/- What the encoder computes, in plain terms: the carry, the step of Encode, and its bounds. -/
import Derived.Test.YtfbdenlpoidnjaaErs
set_option linter.unusedVariables false
set_option linter.unusedSimpArgs false
namespace Go.Proofs.Ytfbdenlpoidnjaa.P
open Go.RowKit Go.Proofs.YtfbdenlpoidnjaaW.PrintWords

theorem wrap64_id {n : Int} (h0 : -9223372036854775808 ≤ n) (h1 : n ≤ 9223372036854775807) : wrap64 n = n := by unfold wrap64; omega
theorem Ev.succ {α : Type} {g : Nat → Option α} {r : α} (h : Ev (fun k => g (k + 1)) r) : Ev g r := by
  obtain ⟨n, hn⟩ := h
  refine ⟨n + 1, fun k hk => ?_⟩
  obtain ⟨j, rfl⟩ : ∃ j, k = j + 1 := ⟨k - 1, by omega⟩
  exact hn j (by omega)
def Byt (l : List Int) : Prop := ∀ z ∈ l, 0 ≤ z ∧ z < 256
/-- One more, the last byte first. -/
def carryR : List Int → List Int
  | [] => []
  | x :: r => if x = 255 then 0 :: carryR r else (x + 1) :: r
def carryP (l : List Int) : List Int := (carryR l.reverse).reverse
theorem carryR_length : ∀ l, (carryR l).length = l.length
  | [] => rfl
  | x :: r => by
    rw [carryR]
    split
    · rw [List.length_cons, carryR_length r, List.length_cons]
    · rfl
theorem carryR_byt : ∀ {l}, Byt l → Byt (carryR l)
  | [], h => h
  | x :: r, h => by
    have h0 := h x List.mem_cons_self
    have hr : Byt r := fun z hz => h z (List.mem_cons_of_mem _ hz)
    rw [carryR]
    split
    · intro z hz
      rcases List.mem_cons.1 hz with rfl | hz
      · omega
      · exact carryR_byt hr z hz
    · intro z hz
      rcases List.mem_cons.1 hz with rfl | hz
      · omega
      · exact hr z hz
theorem carryP_length (l : List Int) : (carryP l).length = l.length := by unfold carryP; rw [List.length_reverse, carryR_length, List.length_reverse]
theorem carryP_byt {l : List Int} (h : Byt l) : Byt (carryP l) := by
  intro z hz
  exact carryR_byt (fun z hz => h z (List.mem_reverse.1 hz)) z (List.mem_reverse.1 hz)
theorem carry_loop : ∀ (a z : List Int), Byt a → a.length + z.length ≤ 1000000000 → Ev (fun k => arith_carry.l0 k (a.reverse ++ z) ((a.length : Int) - 1)) ((carryR a).reverse ++ z)
  | [], z, _, _ => ⟨1, fun k hk => by
      obtain ⟨j, rfl⟩ : ∃ j, k = j + 1 := ⟨k - 1, by omega⟩
      show arith_carry.l0 (j + 1) _ _ = _
      rw [arith_carry.l0, if_neg (by simp)]
      rfl⟩
  | x :: r, z, hb, hl => by
    have h0 := hb x List.mem_cons_self
    have hr : Byt r := fun z hz => hb z (List.mem_cons_of_mem _ hz)
    rw [List.length_cons] at hl
    have e1 : (x :: r).reverse ++ z = r.reverse ++ x :: z := by rw [List.reverse_cons, List.append_assoc]; rfl
    have e2 : (((x :: r).length : Nat) : Int) - 1 = (r.length : Int) := by rw [List.length_cons]; omega
    have e3 : (r.reverse ++ x :: z).set r.length ((x + 1) % 256) = r.reverse ++ ((x + 1) % 256) :: z := by
      rw [List.set_append_right _ _ (by rw [List.length_reverse]; exact Nat.le_refl _), List.length_reverse, Nat.sub_self, List.set_cons_zero]
    have rd1 : ∀ y : Int, rd (r.reverse ++ y :: z) (r.length : Int) = y := by
      intro y
      unfold rd
      rw [Int.toNat_natCast, List.getD_eq_getElem?_getD, List.getElem?_append_right (by rw [List.length_reverse]; exact Nat.le_refl _), List.length_reverse, Nat.sub_self]
      rfl
    rw [e1, e2]
    have hlen : (r.length : Int) < ((r.reverse ++ x :: z).length : Int) := by rw [List.length_append, List.length_reverse, List.length_cons]; omega
    have step : ∀ k, arith_carry.l0 (k + 1) (r.reverse ++ x :: z) (r.length : Int) = if (x + 1) % 256 = 0 then arith_carry.l0 k (r.reverse ++ ((x + 1) % 256) :: z) ((r.length : Int) - 1) else some (r.reverse ++ ((x + 1) % 256) :: z) := by
      intro k
      rw [arith_carry.l0, if_pos (by omega), if_pos (by omega), if_pos hlen, Option.bind_some, rd1, Int.toNat_natCast, e3, rd1, wrap64_id (by omega) (by omega)]
    by_cases hx : x = 255
    · have hz : (x + 1) % 256 = 0 := by omega
      have ih := carry_loop r (0 :: z) hr (by rw [List.length_cons]; omega)
      have e4 : (carryR (x :: r)).reverse ++ z = (carryR r).reverse ++ 0 :: z := by
        rw [carryR, if_pos hx, List.reverse_cons, List.append_assoc]; rfl
      rw [e4]
      exact Ev.step (fun k => by rw [step k, if_pos hz, hz]) ih
    · have hz : ¬ (x + 1) % 256 = 0 := by omega
      have e4 : (carryR (x :: r)).reverse ++ z = r.reverse ++ ((x + 1) % 256) :: z := by
        rw [carryR, if_neg hx, List.reverse_cons, List.append_assoc, show (x + 1) % 256 = x + 1 by omega]; rfl
      rw [e4]
      exact Ev.step (f := fun _ => some (r.reverse ++ ((x + 1) % 256) :: z)) (fun k => by rw [step k, if_neg hz]) (Ev.now _)
theorem carry_f (l : List Int) (hb : Byt l) (hl : l.length ≤ 1000000000) : Ev (fun k => arith_carry.f k l) (carryP l) := by
  have h := carry_loop l.reverse [] (fun z hz => hb z (List.mem_reverse.1 hz)) (by rw [List.length_reverse]; simpa using hl)
  rw [List.reverse_reverse, List.append_nil, List.append_nil, List.length_reverse] at h
  refine Ev.congr (fun k => ?_) h
  unfold arith_carry.f
  rw [wrap64_id (by omega) (by omega)]

/-! ### The step of Encode -/
def OkP (p : List Int) : Prop := ∀ z ∈ p, 31 ≤ z ∧ z ≤ 4065
theorem adapt_ok {x bit : Int} (h : 31 ≤ x ∧ x ≤ 4065) : 31 ≤ adaptP x bit ∧ adaptP x bit ≤ 4065 := by
  unfold adaptP
  split <;> omega
theorem OkP.get {p : List Int} (h : OkP p) {i : Nat} (hi : i < p.length) : 31 ≤ rd p (i : Int) ∧ rd p (i : Int) ≤ 4065 := by
  unfold rd
  rw [Int.toNat_natCast, List.getD_eq_getElem?_getD, List.getElem?_eq_getElem hi]
  exact h _ (List.getElem_mem hi)
theorem OkP.set {p : List Int} (h : OkP p) {i : Nat} {x : Int} (hx : 31 ≤ x ∧ x ≤ 4065) : OkP (p.set i x) := by
  intro z hz
  rcases List.mem_or_eq_of_mem_set hz with hz | rfl
  · exact h z hz
  · exact hx
/-- What an encoder is at any time. -/
structure EncOk (s : EncS) : Prop where
  p0 : 0 < s.p.length
  p1 : s.p.length ≤ 64
  p : OkP s.p
  out : Byt s.out
  low0 : 0 ≤ s.low
  low1 : s.low ≤ 4294967295
  size0 : 16777216 ≤ s.size
  size1 : s.size ≤ 4294967295
theorem newE_ok (n : Nat) (h0 : 1 ≤ n) (h1 : n ≤ 64) : EncOk (newE n) := by
  refine ⟨?_, ?_, ?_, (fun z hz => by cases hz), ?_, ?_, ?_, ?_⟩
  · show 0 < (List.replicate n (2048 : Int)).length
    rw [List.length_replicate]; omega
  · show (List.replicate n (2048 : Int)).length ≤ 64
    rw [List.length_replicate]; omega
  · intro z hz
    have := (List.mem_replicate.1 hz).2
    omega
  all_goals
    simp [newE]
/-- The part of the bit 0. -/
def splitP (size x : Int) : Int := size / 4096 * x
theorem splitP_bd {size x : Int} (h0 : 16777216 ≤ size) (h1 : size ≤ 4294967295) (hx : 31 ≤ x ∧ x ≤ 4065) : 65536 ≤ splitP size x ∧ 65536 ≤ size - splitP size x ∧ splitP size x ≤ size := by
  unfold splitP
  have q0 : 4096 ≤ size / 4096 := by omega
  have a := Int.mul_le_mul_of_nonneg_left hx.1 (show 0 ≤ size / 4096 by omega)
  have b := Int.mul_le_mul_of_nonneg_left hx.2 (show 0 ≤ size / 4096 by omega)
  omega
/-- The interval behind a bit, ahead of its renewal: bytes, low, size. -/
def midE (out : List Int) (low size : Int) (x bit : Int) : List Int × Int × Int :=
  if bit = 0 then (out, low, splitP size x)
  else if low + splitP size x > 4294967295 then (carryP out, low + splitP size x - 4294967296, size - splitP size x)
  else (out, low + splitP size x, size - splitP size x)
/-- A range that is small is enlarged: once is enough. -/
def rnE (t : List Int × Int × Int) : List Int × Int × Int := if t.2.2 < 16777216 then (t.1 ++ [t.2.1 / 16777216], t.2.1 * 256 % 4294967296, t.2.2 * 256) else t
/-- Encode's step. -/
def encE (s : EncS) (i : Nat) (bit : Int) : EncS :=
  let t := rnE (midE s.out s.low s.size (rd s.p (i : Int)) bit)
  ⟨s.p.set i (adaptP (rd s.p (i : Int)) bit), t.1, t.2.1, t.2.2, true⟩
/-- The bounds ahead of the renewal. -/
structure MidOk (t : List Int × Int × Int) : Prop where
  out : Byt t.1
  low0 : 0 ≤ t.2.1
  low1 : t.2.1 ≤ 4294967295
  size0 : 65536 ≤ t.2.2
  size1 : t.2.2 ≤ 4294967295
theorem midE_ok {out : List Int} {low size x bit : Int} (ho : Byt out) (l0 : 0 ≤ low) (l1 : low ≤ 4294967295) (h0 : 16777216 ≤ size) (h1 : size ≤ 4294967295) (hx : 31 ≤ x ∧ x ≤ 4065) : MidOk (midE out low size x bit) := by
  have hs := splitP_bd h0 h1 hx
  unfold midE
  split
  · exact ⟨ho, l0, l1, hs.1, by show splitP size x ≤ _; omega⟩
  · split
    · exact ⟨carryP_byt ho, by show 0 ≤ low + splitP size x - 4294967296; omega, by show low + splitP size x - 4294967296 ≤ _; omega, hs.2.1, by show size - splitP size x ≤ _; omega⟩
    · exact ⟨ho, by show 0 ≤ low + splitP size x; omega, by show low + splitP size x ≤ _; omega, hs.2.1, by show size - splitP size x ≤ _; omega⟩
theorem rnE_ok {t : List Int × Int × Int} (h : MidOk t) : MidOk (rnE t) ∧ 16777216 ≤ (rnE t).2.2 := by
  obtain ⟨ho, l0, l1, s0, s1⟩ := h
  unfold rnE
  split
  · rename_i hlt
    refine ⟨⟨?_, ?_, ?_, ?_, ?_⟩, ?_⟩
    · intro z hz
      rcases List.mem_append.1 hz with hz | hz
      · exact ho z hz
      · rw [List.mem_singleton.1 hz]; omega
    · show 0 ≤ t.2.1 * 256 % 4294967296; omega
    · show t.2.1 * 256 % 4294967296 ≤ _; omega
    · show _ ≤ t.2.2 * 256; omega
    · show t.2.2 * 256 ≤ _; omega
    · show _ ≤ t.2.2 * 256; omega
  · exact ⟨⟨ho, l0, l1, s0, s1⟩, by omega⟩
theorem encE_ok {s : EncS} (h : EncOk s) {i : Nat} (hi : i < s.p.length) (bit : Int) : EncOk (encE s i bit) := by
  have hx := h.p.get hi
  obtain ⟨ho, hs⟩ := rnE_ok (midE_ok (bit := bit) h.out h.low0 h.low1 h.size0 h.size1 hx)
  exact ⟨by show 0 < (s.p.set i _).length; rw [List.length_set]; exact h.p0, by show (s.p.set i _).length ≤ 64; rw [List.length_set]; exact h.p1, h.p.set (adapt_ok hx), ho.out, ho.low0, ho.low1, hs, ho.size1⟩
theorem rnE_length (t : List Int × Int × Int) : (rnE t).1.length ≤ t.1.length + 1 := by
  unfold rnE
  split
  · rw [List.length_append, List.length_singleton]; exact Nat.le_refl _
  · omega
theorem encE_length (s : EncS) (i : Nat) (bit : Int) : (encE s i bit).out.length ≤ s.out.length + 1 := by
  refine Nat.le_trans (rnE_length _) ?_
  unfold midE
  split
  · exact Nat.le_refl _
  · split
    · show (carryP s.out).length + 1 ≤ _; rw [carryP_length]; exact Nat.le_refl _
    · exact Nat.le_refl _
end Go.Proofs.Ytfbdenlpoidnjaa.P
