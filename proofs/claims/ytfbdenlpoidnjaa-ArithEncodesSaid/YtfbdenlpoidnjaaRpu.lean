/- What the reference's Encode makes of the digits, in plain terms. -/
import Derived.Test.YtfbdenlpoidnjaaCor
set_option linter.unusedVariables false
set_option linter.unusedSimpArgs false
namespace Go.Proofs.Ytfbdenlpoidnjaa.P
open Go.RowKit Go.Proofs.YtfbdenlpoidnjaaW.PrintWords

/-- A number is added to digits, the last one first. -/
def addR : List Int → Int → List Int
  | [], _ => []
  | x :: r, b => (b + x) % 256 :: addR r ((b + x) / 256)
theorem addR_length : ∀ (l : List Int) (b : Int), (addR l b).length = l.length
  | [], _ => rfl
  | x :: r, b => by rw [addR, List.length_cons, addR_length, List.length_cons]
theorem addR_byt : ∀ (l : List Int) (b : Int), Byt (addR l b)
  | [], _ => fun z hz => by cases hz
  | x :: r, b => by
    intro z hz
    rw [addR] at hz
    rcases List.mem_cons.1 hz with rfl | hz
    · omega
    · exact addR_byt r _ z hz
theorem addR_val : ∀ {l : List Int} {b : Int}, 0 ≤ b → Byt l → valR l + b < 256 ^ l.length → valR (addR l b) = valR l + b
  | [], b, h0, hb, h => by
    have h1 : (0 : Int) + b < 256 ^ 0 := h
    rw [Int.pow_zero] at h1
    show (0 : Int) = 0 + b
    omega
  | x :: r, b, h0, hb, h => by
    have hx := hb x List.mem_cons_self
    have hr : Byt r := fun z hz => hb z (List.mem_cons_of_mem _ hz)
    rw [valR, List.length_cons, pow256_succ] at h
    rw [addR, valR, valR, addR_val (by omega) hr (by omega)]
    omega
theorem valR_inj : ∀ {a b : List Int}, Byt a → Byt b → a.length = b.length → valR a = valR b → a = b
  | [], [], _, _, _, _ => rfl
  | [], y :: q, _, _, h, _ => by cases h
  | x :: r, [], _, _, h, _ => by cases h
  | x :: r, y :: q, ha, hb, h, hv => by
    have hx := ha x List.mem_cons_self
    have hy := hb y List.mem_cons_self
    rw [valR, valR] at hv
    have e1 : x = y := by omega
    have e2 : valR r = valR q := by omega
    rw [e1, valR_inj (fun z hz => ha z (List.mem_cons_of_mem _ hz)) (fun z hz => hb z (List.mem_cons_of_mem _ hz)) (Nat.succ.inj h) e2]
theorem valP_inj {a b : List Int} (ha : Byt a) (hb : Byt b) (hl : a.length = b.length) (hv : valP a = valP b) : a = b := by
  have h := valR_inj (byt_rev ha) (byt_rev hb) (by rw [List.length_reverse, List.length_reverse, hl]) hv
  rw [← List.reverse_reverse a, h, List.reverse_reverse]
theorem byt_app {a b : List Int} (ha : Byt a) (hb : Byt b) : Byt (a ++ b) := by
  intro z hz
  rcases List.mem_append.1 hz with hz | hz
  · exact ha z hz
  · exact hb z hz
/-- The digits of the middle state. -/
theorem add_mid {s : EncS} (h : EncOk s) (hI : Inv s) {x : Int} (hx : 31 ≤ x ∧ x ≤ 4065) :
    (addR (s.out ++ lit4P s.low).reverse (splitP s.size x)).reverse = (midE s.out s.low s.size x 1).1 ++ lit4P (midE s.out s.low s.size x 1).2.1 := by
  have hs := splitP_bd h.size0 h.size1 hx
  have hm := midE_ok (bit := 1) h.out h.low0 h.low1 h.size0 h.size1 hx
  obtain ⟨e1, e2, e3⟩ := midE_num h hI (bit := 1) hx
  have hI2 : lowV s + s.size ≤ 4294967295 * 256 ^ s.out.length := hI
  have hp := pow256_pos s.out.length
  have hD : Byt (s.out ++ lit4P s.low) := byt_app h.out (lit4_byt h.low0 h.low1)
  have hDl : (s.out ++ lit4P s.low).length = s.out.length + 4 := by rw [List.length_append]; rfl
  have hDv : valP (s.out ++ lit4P s.low) = lowV s := lit4_val _ h.low0 h.low1
  have hpow : (256 : Int) ^ (s.out.length + 4) = 4294967296 * 256 ^ s.out.length := by
    rw [Int.pow_add, Int.mul_comm]
    rfl
  have hav : valR (addR (s.out ++ lit4P s.low).reverse (splitP s.size x)) = lowV s + splitP s.size x := by
    rw [addR_val (by omega) (byt_rev hD) ?_]
    · show valP (s.out ++ lit4P s.low) + _ = _
      rw [hDv]
    · show valP (s.out ++ lit4P s.low) + _ < _
      rw [hDv, List.length_reverse, hDl, hpow]
      omega
  refine valP_inj (byt_rev (addR_byt _ _)) (byt_app hm.out (lit4_byt hm.low0 hm.low1)) ?_ ?_
  · rw [List.length_reverse, addR_length, List.length_reverse, hDl, List.length_append, e3]; rfl
  · show valR (addR _ _).reverse.reverse = _
    rw [List.reverse_reverse, hav, lit4_val _ hm.low0 hm.low1, e1]
    rfl
/-- A renewal appends a zero. -/
theorem lit4_shift (out : List Int) {low : Int} (h0 : 0 ≤ low) (h1 : low ≤ 4294967295) : out ++ lit4P low ++ [0] = (out ++ [low / 16777216]) ++ lit4P (low * 256 % 4294967296) := by
  unfold lit4P
  have e1 : low * 256 % 4294967296 / 16777216 = low / 65536 % 256 := by omega
  have e2 : low * 256 % 4294967296 / 65536 % 256 = low / 256 % 256 := by omega
  have e3 : low * 256 % 4294967296 / 256 % 256 = low % 256 := by omega
  have e4 : low * 256 % 4294967296 % 256 = 0 := by omega
  rw [e1, e2, e3, e4]
  simp
theorem rd_mid (a z : List Int) (y : Int) : rd (a.reverse ++ y :: z) (a.length : Int) = y := by
  unfold rd
  rw [Int.toNat_natCast, List.getD_eq_getElem?_getD, List.getElem?_append_right (by rw [List.length_reverse]; exact Nat.le_refl _), List.length_reverse, Nat.sub_self]
  rfl
theorem set_mid (a z : List Int) (x y : Int) : (a.reverse ++ x :: z).set a.length y = a.reverse ++ y :: z := by
  rw [List.set_append_right _ _ (by rw [List.length_reverse]; exact Nat.le_refl _), List.length_reverse, Nat.sub_self, List.set_cons_zero]
end Go.Proofs.Ytfbdenlpoidnjaa.P
