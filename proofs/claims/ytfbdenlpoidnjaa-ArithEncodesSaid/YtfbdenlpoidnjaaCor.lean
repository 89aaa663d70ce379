/- The numbers that an encoder's bytes and a codeword stand for. -/
import Derived.Test.YtfbdenlpoidnjaaEpl
set_option linter.unusedVariables false
set_option linter.unusedSimpArgs false
namespace Go.Proofs.Ytfbdenlpoidnjaa.P
open Go.RowKit Go.Proofs.YtfbdenlpoidnjaaW.PrintWords

/-- The number of digits to the base 256, the least one first. -/
def valR : List Int → Int
  | [] => 0
  | x :: r => x + 256 * valR r
def valP (l : List Int) : Int := valR l.reverse
theorem valP_nil : valP [] = 0 := rfl
theorem valP_snoc (l : List Int) (x : Int) : valP (l ++ [x]) = valP l * 256 + x := by
  unfold valP
  rw [List.reverse_append, List.reverse_singleton, List.singleton_append, valR]
  omega
theorem pow256_pos (n : Nat) : (0 : Int) < 256 ^ n := Int.pow_pos (by decide)
theorem pow256_succ (n : Nat) : (256 : Int) ^ (n + 1) = 256 * 256 ^ n := by rw [Int.pow_succ, Int.mul_comm]
theorem valR_bd : ∀ {l : List Int}, Byt l → 0 ≤ valR l ∧ valR l < 256 ^ l.length
  | [], _ => ⟨Int.le_refl _, by decide⟩
  | x :: r, h => by
    have h0 := h x List.mem_cons_self
    have ih := valR_bd (l := r) (fun z hz => h z (List.mem_cons_of_mem _ hz))
    have hp := pow256_pos r.length
    rw [valR, List.length_cons, pow256_succ]
    omega
theorem byt_rev {l : List Int} (h : Byt l) : Byt l.reverse := fun z hz => h z (List.mem_reverse.1 hz)
theorem valP_bd {l : List Int} (h : Byt l) : 0 ≤ valP l ∧ valP l < 256 ^ l.length := by
  have := valR_bd (byt_rev h)
  rwa [List.length_reverse] at this
theorem carryR_val : ∀ {l : List Int}, Byt l → valR l + 1 < 256 ^ l.length → valR (carryR l) = valR l + 1
  | [], _, h => by simp [valR] at h
  | x :: r, hb, h => by
    have h0 := hb x List.mem_cons_self
    have hr : Byt r := fun z hz => hb z (List.mem_cons_of_mem _ hz)
    rw [valR, List.length_cons, pow256_succ] at h
    rw [carryR]
    split
    · rename_i hx
      rw [valR, carryR_val hr (by omega), valR]
      omega
    · rw [valR, valR]
      omega
theorem carryP_val {l : List Int} (hb : Byt l) (h : valP l + 1 < 256 ^ l.length) : valP (carryP l) = valP l + 1 := by
  unfold carryP
  show valR (carryR l.reverse).reverse.reverse = _
  rw [List.reverse_reverse]
  exact carryR_val (byt_rev hb) (by rw [List.length_reverse]; exact h)
/-- The lower end of an encoder's interval, in units of its last digit. -/
def lowV (s : EncS) : Int := valP s.out * 4294967296 + s.low
/-- The interval lies within the first one. -/
def Inv (s : EncS) : Prop := lowV s + s.size ≤ 4294967295 * 256 ^ s.out.length
theorem inv_start (p : List Int) (b : Bool) : Inv ⟨p, [], 0, 4294967295, b⟩ := by
  show (valP [] * 4294967296 + 0 : Int) + 4294967295 ≤ 4294967295 * 256 ^ 0
  rw [valP_nil]
  decide
/-- What a bit takes off below, and what it leaves. -/
def offP (bit sp : Int) : Int := if bit = 0 then 0 else sp
def leftP (bit sp size : Int) : Int := if bit = 0 then sp else size - sp
theorem midE_num {s : EncS} (h : EncOk s) (hI : Inv s) {x bit : Int} (hx : 31 ≤ x ∧ x ≤ 4065) :
    valP (midE s.out s.low s.size x bit).1 * 4294967296 + (midE s.out s.low s.size x bit).2.1 = lowV s + offP bit (splitP s.size x) ∧ (midE s.out s.low s.size x bit).2.2 = leftP bit (splitP s.size x) s.size ∧ (midE s.out s.low s.size x bit).1.length = s.out.length := by
  have hs := splitP_bd h.size0 h.size1 hx
  unfold midE offP leftP
  split
  · exact ⟨by show valP s.out * 4294967296 + s.low = _; unfold lowV; omega, rfl, rfl⟩
  · split
    · rename_i hc
      have hb := valP_bd h.out
      have hl := h.low1
      have hI2 : lowV s + s.size ≤ 4294967295 * 256 ^ s.out.length := hI
      unfold lowV at hI2
      have hp := pow256_pos s.out.length
      refine ⟨?_, rfl, carryP_length _⟩
      show valP (carryP s.out) * 4294967296 + (s.low + splitP s.size x - 4294967296) = lowV s + splitP s.size x
      rw [carryP_val h.out (by omega)]
      unfold lowV
      omega
    · exact ⟨by show valP s.out * 4294967296 + (s.low + splitP s.size x) = _; unfold lowV; omega, rfl, rfl⟩
/-- Encode's step in numbers. -/
theorem encE_num {s : EncS} (h : EncOk s) (hI : Inv s) {i : Nat} (hi : i < s.p.length) (bit : Int) :
    (leftP bit (splitP s.size (rd s.p (i : Int))) s.size < 16777216 ∧ (encE s i bit).out.length = s.out.length + 1 ∧ lowV (encE s i bit) = 256 * (lowV s + offP bit (splitP s.size (rd s.p (i : Int)))) ∧ (encE s i bit).size = 256 * leftP bit (splitP s.size (rd s.p (i : Int))) s.size)
    ∨ (16777216 ≤ leftP bit (splitP s.size (rd s.p (i : Int))) s.size ∧ (encE s i bit).out.length = s.out.length ∧ lowV (encE s i bit) = lowV s + offP bit (splitP s.size (rd s.p (i : Int))) ∧ (encE s i bit).size = leftP bit (splitP s.size (rd s.p (i : Int))) s.size) := by
  obtain ⟨e1, e2, e3⟩ := midE_num h hI (bit := bit) (h.p.get hi)
  have hm := midE_ok (bit := bit) h.out h.low0 h.low1 h.size0 h.size1 (h.p.get hi)
  have hE : encE s i bit = ⟨s.p.set i (adaptP (rd s.p (i : Int)) bit), (rnE (midE s.out s.low s.size (rd s.p (i : Int)) bit)).1, (rnE (midE s.out s.low s.size (rd s.p (i : Int)) bit)).2.1, (rnE (midE s.out s.low s.size (rd s.p (i : Int)) bit)).2.2, true⟩ := rfl
  rw [hE]
  generalize midE s.out s.low s.size (rd s.p (i : Int)) bit = t at *
  by_cases hlt : t.2.2 < 16777216
  · refine .inl ⟨by rw [← e2]; exact hlt, ?_, ?_, ?_⟩
    · show (rnE t).1.length = _
      unfold rnE; rw [if_pos hlt, ← e3]; show (t.1 ++ [t.2.1 / 16777216]).length = _; rw [List.length_append]; rfl
    · show valP (rnE t).1 * 4294967296 + (rnE t).2.1 = _
      rw [← e1]; unfold rnE; rw [if_pos hlt]
      show valP (t.1 ++ [t.2.1 / 16777216]) * 4294967296 + t.2.1 * 256 % 4294967296 = _
      rw [valP_snoc]
      have := hm.low0; have := hm.low1
      omega
    · show (rnE t).2.2 = _
      rw [← e2]; unfold rnE; rw [if_pos hlt]; show t.2.2 * 256 = _; omega
  · refine .inr ⟨by rw [← e2]; omega, ?_, ?_, ?_⟩
    · show (rnE t).1.length = _
      unfold rnE; rw [if_neg hlt, e3]
    · show valP (rnE t).1 * 4294967296 + (rnE t).2.1 = _
      rw [← e1]; unfold rnE; rw [if_neg hlt]
    · show (rnE t).2.2 = _
      rw [← e2]; unfold rnE; rw [if_neg hlt]
theorem bit_bd {s : EncS} (h : EncOk s) {i : Nat} (hi : i < s.p.length) (bit : Int) : 0 ≤ offP bit (splitP s.size (rd s.p (i : Int))) ∧ 0 < leftP bit (splitP s.size (rd s.p (i : Int))) s.size ∧ offP bit (splitP s.size (rd s.p (i : Int))) + leftP bit (splitP s.size (rd s.p (i : Int))) s.size ≤ s.size := by
  have hs := splitP_bd h.size0 h.size1 (h.p.get hi)
  unfold offP leftP
  split <;> omega
theorem encE_inv {s : EncS} (h : EncOk s) (hI : Inv s) {i : Nat} (hi : i < s.p.length) (bit : Int) : Inv (encE s i bit) := by
  have hb := bit_bd h hi bit
  have hI2 : lowV s + s.size ≤ 4294967295 * 256 ^ s.out.length := hI
  show lowV (encE s i bit) + (encE s i bit).size ≤ 4294967295 * 256 ^ (encE s i bit).out.length
  rcases encE_num h hI hi bit with ⟨_, e1, e2, e3⟩ | ⟨_, e1, e2, e3⟩
  · rw [e1, e2, e3, pow256_succ]; omega
  · rw [e1, e2, e3]; omega
theorem encL_inv : ∀ {s : EncS} {l : List S69}, EncOk s → Inv s → SymOk s.p.length l → Inv (encL s l)
  | s, [], h, hI, _ => hI
  | s, x :: r, h, hI, hs => by
    have hx := hs x List.mem_cons_self
    have h2 : (encStep s x).p.length = s.p.length := encE_plen s _ _
    exact encL_inv (s := encStep s x) (l := r) (encStep_ok h hx.1 hx.2.1) (encE_inv h hI (by omega) _) (by rw [h2]; exact fun z hz => hs z (List.mem_cons_of_mem _ hz))
/-- The first bytes of a codeword as a number; zeros behind its end. -/
def numP (b : List Int) : Nat → Int
  | 0 => 0
  | m + 1 => numP b m * 256 + nextP b m
/-- What the decoder makes of them: the first four are at most 2^32 - 2. -/
def effP (b : List Int) : Nat → Int
  | 0 => min (numP b 4) 4294967294
  | j + 1 => effP b j * 256 + nextP b (j + 4)
def InI (b : List Int) (s : EncS) : Prop := lowV s ≤ effP b s.out.length ∧ effP b s.out.length < lowV s + s.size
theorem inI_back {b : List Int} (hb : Byt b) {s : EncS} (h : EncOk s) (hI : Inv s) {i : Nat} (hi : i < s.p.length) {bit : Int} (hin : InI b (encE s i bit)) :
    lowV s + offP bit (splitP s.size (rd s.p (i : Int))) ≤ effP b s.out.length ∧ effP b s.out.length < lowV s + offP bit (splitP s.size (rd s.p (i : Int))) + leftP bit (splitP s.size (rd s.p (i : Int))) s.size := by
  obtain ⟨h1, h2⟩ := hin
  rcases encE_num h hI hi bit with ⟨_, e1, e2, e3⟩ | ⟨_, e1, e2, e3⟩
  · rw [e1, e2] at h1
    rw [e1, e2, e3] at h2
    rw [effP] at h1 h2
    have := nextP_bd hb (s.out.length + 4)
    omega
  · rw [e1, e2] at h1
    rw [e1, e2, e3] at h2
    omega
theorem inI_nest {b : List Int} (hb : Byt b) : ∀ {s : EncS} {l : List S69}, EncOk s → Inv s → SymOk s.p.length l → InI b (encL s l) → InI b s
  | s, [], h, hI, _, hin => hin
  | s, x :: r, h, hI, hs, hin => by
    have hx := hs x List.mem_cons_self
    have h2 : (encStep s x).p.length = s.p.length := encE_plen s _ _
    have h3 := inI_nest hb (s := encStep s x) (l := r) (encStep_ok h hx.1 hx.2.1) (encE_inv h hI (by omega) _) (by rw [h2]; exact fun z hz => hs z (List.mem_cons_of_mem _ hz)) hin
    have h4 := inI_back hb h hI (i := x.f0.toNat) (by omega) h3
    have h5 := bit_bd h (i := x.f0.toNat) (by omega) x.f1
    exact ⟨by omega, by omega⟩
end Go.Proofs.Ytfbdenlpoidnjaa.P
-- A decoder follows an encoder as long as the codeword lies in the encoder's interval.
set_option linter.unusedVariables false
set_option linter.unusedSimpArgs false
namespace Go.Proofs.Ytfbdenlpoidnjaa.P
open Go.RowKit Go.Proofs.YtfbdenlpoidnjaaW.PrintWords

/-- The decoder stands where the encoder stood. -/
structure SimD (b : List Int) (s : EncS) (d : DecS) : Prop where
  p : d.p = s.p
  size : d.size = s.size
  data : d.data = b
  at_ : d.at_.toNat = min (s.out.length + 4) b.length
  value : d.value = effP b s.out.length - lowV s
theorem nextP_min (b : List Int) (m : Nat) : nextP b (min m b.length) = nextP b m := by
  by_cases h : m ≤ b.length
  · rw [Nat.min_eq_left h]
  · rw [Nat.min_eq_right (by omega)]
    unfold nextP
    rw [if_neg (by omega), if_neg (by omega)]
theorem nextA_min (b : List Int) (m : Nat) : nextA b (min m b.length) = min (m + 1) b.length := by
  unfold nextA
  split <;> omega
theorem pullP_num (b : List Int) : ∀ n m : Nat, pullP b n (min m b.length) (numP b m) = (min (m + n) b.length, numP b (m + n))
  | 0, m => rfl
  | n + 1, m => by
    rw [pullP, nextA_min, nextP_min]
    have h : numP b m * 256 + nextP b m = numP b (m + 1) := rfl
    rw [h, pullP_num b n (m + 1), show m + 1 + n = m + (n + 1) by omega]
theorem sim_start (b : List Int) (p : List Int) (bg : Bool) (s : DecS) (hp : s.p = p) : SimD b ⟨p, [], 0, 4294967295, bg⟩ (startD s b) := by
  have h : pullP b 4 0 0 = (min 4 b.length, numP b 4) := by
    have h := pullP_num b 4 0
    rw [Nat.zero_min, Nat.zero_add] at h
    exact h
  refine ⟨hp, rfl, rfl, ?_, ?_⟩
  · show ((((pullP b 4 0 0).1 : Nat) : Int)).toNat = min (0 + 4) b.length
    rw [h, Int.toNat_natCast]
  · show min (pullP b 4 0 0).2 4294967294 = effP b 0 - (valP [] * 4294967296 + 0)
    rw [h, valP_nil]
    show min (numP b 4) 4294967294 = min (numP b 4) 4294967294 - _
    omega
theorem decE_of (d : DecS) (i : Nat) {bit v z : Int} (hm : midD d.value d.size (rd d.p (i : Int)) = (bit, v, z)) :
    (decE d i).1 = bit ∧ (decE d i).2.p = d.p.set i (adaptP (rd d.p (i : Int)) bit) ∧ (decE d i).2.data = d.data ∧
    ((z < 16777216 ∧ (decE d i).2.at_ = ((nextA d.data d.at_.toNat : Nat) : Int) ∧ (decE d i).2.value = v * 256 + nextP d.data d.at_.toNat ∧ (decE d i).2.size = z * 256) ∨ (16777216 ≤ z ∧ (decE d i).2.at_ = (d.at_.toNat : Int) ∧ (decE d i).2.value = v ∧ (decE d i).2.size = z)) := by
  unfold decE
  rw [hm]
  refine ⟨rfl, rfl, rfl, ?_⟩
  by_cases hz : z < 16777216
  · have hr : rnD d.data (d.at_.toNat, v, z) = (nextA d.data d.at_.toNat, v * 256 + nextP d.data d.at_.toNat, z * 256) := by unfold rnD; rw [if_pos hz]
    refine .inl ⟨hz, ?_, ?_, ?_⟩
    · show (((rnD d.data (d.at_.toNat, v, z)).1 : Nat) : Int) = _; rw [hr]
    · show (rnD d.data (d.at_.toNat, v, z)).2.1 = _; rw [hr]
    · show (rnD d.data (d.at_.toNat, v, z)).2.2 = _; rw [hr]
  · have hr : rnD d.data (d.at_.toNat, v, z) = (d.at_.toNat, v, z) := by unfold rnD; rw [if_neg hz]
    refine .inr ⟨by omega, ?_, ?_, ?_⟩
    · show (((rnD d.data (d.at_.toNat, v, z)).1 : Nat) : Int) = _; rw [hr]
    · show (rnD d.data (d.at_.toNat, v, z)).2.1 = _; rw [hr]
    · show (rnD d.data (d.at_.toNat, v, z)).2.2 = _; rw [hr]
/-- A bit that is decoded as it was encoded. -/
theorem sim_step {b : List Int} (hb : Byt b) {s : EncS} {d : DecS} (hS : SimD b s d) (h : EncOk s) (hI : Inv s) {i : Nat} (hi : i < s.p.length) {bit : Int} (hbit : (decE d i).1 = bit) : SimD b (encE s i bit) (decE d i).2 := by
  obtain ⟨sp, ss, sd, sa, sv⟩ := hS
  have key : ∀ v z : Int, midD d.value d.size (rd d.p (i : Int)) = (bit, v, z) → v = d.value - offP bit (splitP s.size (rd s.p (i : Int))) → z = leftP bit (splitP s.size (rd s.p (i : Int))) s.size → SimD b (encE s i bit) (decE d i).2 := by
    intro v z hm hv hz
    obtain ⟨q1, q2, q3, q4⟩ := decE_of d i hm
    have hn := encE_num h hI hi bit
    rw [sa, sd, nextP_min, nextA_min] at q4
    have hpp : (decE d i).2.p = (encE s i bit).p := by rw [q2, sp]; rfl
    subst hz
    rcases hn with ⟨n0, n1, n2, n3⟩ | ⟨n0, n1, n2, n3⟩
    · rcases q4 with ⟨m0, m1, m2, m3⟩ | ⟨m0, m1, m2, m3⟩
      · refine ⟨hpp, by rw [m3, n3]; omega, q3.trans sd, ?_, ?_⟩
        · rw [m1, Int.toNat_natCast, n1, show s.out.length + 1 + 4 = s.out.length + 4 + 1 by omega]
        · rw [m2, n1, n2, effP, hv, sv]; omega
      · omega
    · rcases q4 with ⟨m0, m1, m2, m3⟩ | ⟨m0, m1, m2, m3⟩
      · omega
      · refine ⟨hpp, by rw [m3, n3], q3.trans sd, ?_, ?_⟩
        · rw [m1, Int.toNat_natCast, n1]
        · rw [m2, n1, n2, hv, sv]; omega
  have hm : decE d i = decE d i := rfl
  by_cases hv : d.value < splitP d.size (rd d.p (i : Int))
  · have hm : midD d.value d.size (rd d.p (i : Int)) = (0, d.value, splitP d.size (rd d.p (i : Int))) := by unfold midD; rw [if_pos hv]
    have h0 := (decE_of d i hm).1
    rw [hbit] at h0
    subst h0
    refine key _ _ hm ?_ ?_
    · unfold offP; rw [if_pos rfl]; omega
    · unfold leftP; rw [if_pos rfl, ss, sp]
  · have hm : midD d.value d.size (rd d.p (i : Int)) = (1, d.value - splitP d.size (rd d.p (i : Int)), d.size - splitP d.size (rd d.p (i : Int))) := by unfold midD; rw [if_neg hv]
    have h0 := (decE_of d i hm).1
    rw [hbit] at h0
    subst h0
    refine key _ _ hm ?_ ?_
    · unfold offP; rw [if_neg (by decide), ss, sp]
    · unfold leftP; rw [if_neg (by decide), ss, sp]
/-- Where the codeword lies in the interval behind the bit, the bit is decoded. -/
theorem sim_bit {b : List Int} (hb : Byt b) {s : EncS} {d : DecS} (hS : SimD b s d) (h : EncOk s) (hI : Inv s) {i : Nat} (hi : i < s.p.length) {bit : Int} (h01 : bit = 0 ∨ bit = 1) (hin : InI b (encE s i bit)) : (decE d i).1 = bit := by
  obtain ⟨sp, ss, sd, sa, sv⟩ := hS
  obtain ⟨h1, h2⟩ := inI_back hb h hI hi hin
  by_cases hv : d.value < splitP d.size (rd d.p (i : Int))
  · have hm : midD d.value d.size (rd d.p (i : Int)) = (0, d.value, splitP d.size (rd d.p (i : Int))) := by unfold midD; rw [if_pos hv]
    rw [(decE_of d i hm).1]
    rcases h01 with rfl | rfl
    · rfl
    · unfold offP at h1
      rw [if_neg (by decide)] at h1
      rw [ss, sp] at hv
      omega
  · have hm : midD d.value d.size (rd d.p (i : Int)) = (1, d.value - splitP d.size (rd d.p (i : Int)), d.size - splitP d.size (rd d.p (i : Int))) := by unfold midD; rw [if_neg hv]
    rw [(decE_of d i hm).1]
    rcases h01 with rfl | rfl
    · unfold offP leftP at h2
      rw [if_pos rfl, if_pos rfl] at h2
      rw [ss, sp] at hv
      omega
    · rfl
/-- Symbols that are decoded: the codeword lies in their interval. -/
theorem sim_all {b : List Int} (hb : Byt b) : ∀ {s : EncS} {d : DecS} {l : List S69}, SimD b s d → EncOk s → Inv s → SymOk s.p.length l → InI b (encL s l) → (decL d l).1 = l.length ∧ SimD b (encL s l) (decL d l).2
  | s, d, [], hS, h, hI, hs, hin => ⟨rfl, hS⟩
  | s, d, x :: r, hS, h, hI, hs, hin => by
    have hx := hs x List.mem_cons_self
    have hxi : x.f0.toNat < s.p.length := by omega
    have h2 : (encStep s x).p.length = s.p.length := encE_plen s _ _
    have hs' : SymOk (encStep s x).p.length r := by rw [h2]; exact fun z hz => hs z (List.mem_cons_of_mem _ hz)
    have ho := encStep_ok h hx.1 hx.2.1
    have hi' : Inv (encStep s x) := encE_inv h hI hxi _
    have hin1 := inI_nest hb ho hi' hs' hin
    have hbit := sim_bit hb hS h hI hxi hx.2.2 hin1
    have hS' : SimD b (encStep s x) (decE d x.f0.toNat).2 := sim_step hb hS h hI hxi hbit
    obtain ⟨a1, a2⟩ := sim_all hb hS' ho hi' hs' hin
    have e : decL d (x :: r) = ((decL (decE d x.f0.toNat).2 r).1 + 1, (decL (decE d x.f0.toNat).2 r).2) := by rw [decL, if_pos hbit]
    rw [e, List.length_cons]
    exact ⟨by rw [a1], a2⟩
theorem decL_le : ∀ (d : DecS) (l : List S69), (decL d l).1 ≤ l.length
  | d, [] => Nat.le_refl _
  | d, x :: r => by
    rw [decL]
    split
    · have := decL_le (decE d x.f0.toNat).2 r
      rw [List.length_cons]
      show _ + 1 ≤ _
      omega
    · exact Nat.zero_le _
/-- And the other way round. -/
theorem sim_conv {b : List Int} (hb : Byt b) : ∀ {s : EncS} {d : DecS} {l : List S69}, SimD b s d → EncOk s → Inv s → SymOk s.p.length l → (decL d l).1 = l.length → SimD b (encL s l) (decL d l).2
  | s, d, [], hS, h, hI, hs, hc => hS
  | s, d, x :: r, hS, h, hI, hs, hc => by
    have hx := hs x List.mem_cons_self
    have hxi : x.f0.toNat < s.p.length := by omega
    have h2 : (encStep s x).p.length = s.p.length := encE_plen s _ _
    have hs' : SymOk (encStep s x).p.length r := by rw [h2]; exact fun z hz => hs z (List.mem_cons_of_mem _ hz)
    have ho := encStep_ok h hx.1 hx.2.1
    have hi' : Inv (encStep s x) := encE_inv h hI hxi _
    rw [decL] at hc ⊢
    split at hc
    · rename_i hbit
      have hS' : SimD b (encStep s x) (decE d x.f0.toNat).2 := sim_step hb hS h hI hxi hbit
      rw [if_pos hbit]
      exact sim_conv hb hS' ho hi' hs' (by rw [List.length_cons] at hc; exact Nat.succ.inj hc)
    · cases hc
theorem decL_ok : ∀ {d : DecS} {l : List S69}, DecOk d → SymOk d.p.length l → DecOk (decL d l).2
  | d, [], h, _ => h
  | d, x :: r, h, hs => by
    have hx := hs x List.mem_cons_self
    have h1 := decE_ok h (i := x.f0.toNat) (by omega)
    have h2 : (decE d x.f0.toNat).2.p.length = d.p.length := by show (d.p.set _ _).length = _; rw [List.length_set]
    rw [decL]
    split
    · exact decL_ok h1 (by rw [h2]; exact fun z hz => hs z (List.mem_cons_of_mem _ hz))
    · exact h1
end Go.Proofs.Ytfbdenlpoidnjaa.P
-- The codeword: it lies in the interval, and no shorter string does.
set_option linter.unusedVariables false
set_option linter.unusedSimpArgs false
namespace Go.Proofs.Ytfbdenlpoidnjaa.P
open Go.RowKit Go.Proofs.YtfbdenlpoidnjaaW.PrintWords

theorem ceil_bd (low m : Int) (hm : 0 < m) (h0 : 0 ≤ low) : low ≤ ceilP low m ∧ ceilP low m < low + m := by
  unfold ceilP
  have h1 := Int.ediv_mul_le (low + m - 1) (b := m) (by omega)
  have h2 := Int.lt_ediv_add_one_mul_self (low + m - 1) hm
  rw [Int.add_mul, Int.one_mul] at h2
  omega
theorem lit4_val (l : List Int) {v : Int} (h0 : 0 ≤ v) (h1 : v ≤ 4294967295) : valP (l ++ lit4P v) = valP l * 4294967296 + v := by
  have e : l ++ lit4P v = (((l ++ [v / 16777216]) ++ [v / 65536 % 256]) ++ [v / 256 % 256]) ++ [v % 256] := by
    unfold lit4P
    simp
  rw [e, valP_snoc, valP_snoc, valP_snoc, valP_snoc]
  omega
theorem lit4_byt {v : Int} (h0 : 0 ≤ v) (h1 : v ≤ 4294967295) : Byt (lit4P v) := by
  intro z hz
  unfold lit4P at hz
  simp only [List.mem_cons, List.not_mem_nil, or_false] at hz
  rcases hz with rfl | rfl | rfl | rfl <;> omega
/-- The number that Terminate takes: its place, and that no number of the interval is divisible by a higher power. -/
theorem full_val {s : EncS} (h : EncOk s) (hI : Inv s) :
    lowV s ≤ valP (fullP s) ∧ valP (fullP s) < lowV s + s.size ∧ Byt (fullP s) ∧ (fullP s).length = s.out.length + 4 ∧
    ∀ (k : Nat) (y : Int), lowV s ≤ y * 256 ^ k → y * 256 ^ k < lowV s + s.size → ∃ z, valP (fullP s) = z * 256 ^ k := by
  have hb := valP_bd h.out
  have hbd := chooseP_bd (size := s.size) h.low0 h.low1
  have hI2 : lowV s + s.size ≤ 4294967295 * 256 ^ s.out.length := hI
  have hp := pow256_pos s.out.length
  have l0 := h.low0
  have l1 := h.low1
  have s0 := h.size0
  have s1 := h.size1
  -- a multiple of 256^(k + 4) is one of 2^32
  have big : ∀ (k : Nat) (y : Int), 4 ≤ k → ∃ q, y * 256 ^ k = q * 4294967296 := by
    intro k y hk
    refine ⟨y * 256 ^ (k - 4), ?_⟩
    have e : k = (k - 4) + 4 := by omega
    rw [e, Int.pow_add, show (k - 4 + 4 - 4) = k - 4 by omega, ← Int.mul_assoc]
    rfl
  have small : ∀ (k : Nat) (y : Int), k < 4 → (256 : Int) ^ k = 1 ∨ (256 : Int) ^ k = 256 ∨ (256 : Int) ^ k = 65536 ∨ (256 : Int) ^ k = 16777216 := by
    intro k y hk
    match k, hk with
    | 0, _ => exact .inl rfl
    | 1, _ => exact .inr (.inl rfl)
    | 2, _ => exact .inr (.inr (.inl rfl))
    | 3, _ => exact .inr (.inr (.inr rfl))
  by_cases c0 : s.low = 0
  · have ec : chooseP s.low s.size = (0, false) := by unfold chooseP; rw [if_pos c0]
    have ef : fullP s = s.out ++ lit4P 0 := by unfold fullP; rw [ec]; rfl
    have ev : valP (fullP s) = lowV s := by rw [ef, lit4_val _ (by decide) (by decide)]; unfold lowV; omega
    refine ⟨by omega, by omega, ?_, ?_, ?_⟩
    · rw [ef]; intro z hz
      rcases List.mem_append.1 hz with hz | hz
      · exact h.out z hz
      · exact lit4_byt (by decide) (by decide) z hz
    · rw [ef, List.length_append]; rfl
    · intro k y h1 h2
      by_cases hk : 4 ≤ k
      · obtain ⟨q, hq⟩ := big k y hk
        refine ⟨y, ?_⟩
        rw [ev, hq]
        rw [hq] at h1 h2
        unfold lowV at h1 h2 ⊢
        omega
      · rw [ev]
        unfold lowV
        rw [c0]
        rcases small k y (by omega) with e | e | e | e
        · rw [e]; exact ⟨valP s.out * 4294967296, by omega⟩
        · rw [e]; exact ⟨valP s.out * 16777216, by omega⟩
        · rw [e]; exact ⟨valP s.out * 65536, by omega⟩
        · rw [e]; exact ⟨valP s.out * 256, by omega⟩
  · by_cases c1 : 4294967296 < s.low + s.size
    · have ec : chooseP s.low s.size = (0, true) := by unfold chooseP; rw [if_neg c0, if_pos c1]
      have ef : fullP s = carryP s.out ++ lit4P 0 := by unfold fullP; rw [ec]; rfl
      have hcv : valP (carryP s.out) = valP s.out + 1 := carryP_val h.out (by unfold lowV at hI2; omega)
      have ev : valP (fullP s) = (valP s.out + 1) * 4294967296 := by rw [ef, lit4_val _ (by decide) (by decide), hcv]; omega
      refine ⟨by rw [ev]; unfold lowV; omega, by rw [ev]; unfold lowV; omega, ?_, ?_, ?_⟩
      · rw [ef]; intro z hz
        rcases List.mem_append.1 hz with hz | hz
        · exact carryP_byt h.out z hz
        · exact lit4_byt (by decide) (by decide) z hz
      · rw [ef, List.length_append, carryP_length]; rfl
      · intro k y h1 h2
        by_cases hk : 4 ≤ k
        · obtain ⟨q, hq⟩ := big k y hk
          refine ⟨y, ?_⟩
          rw [ev, hq]
          rw [hq] at h1 h2
          unfold lowV at h1 h2
          omega
        · rw [ev]
          rcases small k y (by omega) with e | e | e | e
          · rw [e]; exact ⟨(valP s.out + 1) * 4294967296, by omega⟩
          · rw [e]; exact ⟨(valP s.out + 1) * 16777216, by omega⟩
          · rw [e]; exact ⟨(valP s.out + 1) * 65536, by omega⟩
          · rw [e]; exact ⟨(valP s.out + 1) * 256, by omega⟩
    · have b1 := ceil_bd s.low 16777216 (by decide) l0
      have b2 := ceil_bd s.low 65536 (by decide) l0
      have b3 := ceil_bd s.low 256 (by decide) l0
      -- v: where it lies and what divides it
      have hv : s.low ≤ (chooseP s.low s.size).1 ∧ (chooseP s.low s.size).1 < s.low + s.size ∧ (chooseP s.low s.size).2 = false ∧
          (ceilP s.low 16777216 < s.low + s.size → ∃ z, (chooseP s.low s.size).1 = z * 16777216) ∧ (ceilP s.low 65536 < s.low + s.size → ∃ z, (chooseP s.low s.size).1 = z * 65536) ∧ (ceilP s.low 256 < s.low + s.size → ∃ z, (chooseP s.low s.size).1 = z * 256) := by
        unfold chooseP
        rw [if_neg c0, if_neg c1]
        split
        · rename_i d1
          exact ⟨b1.1, d1, rfl, fun _ => ⟨_, rfl⟩, fun _ => ⟨(s.low + 16777216 - 1) / 16777216 * 256, by show (s.low + 16777216 - 1) / 16777216 * 16777216 = _; omega⟩, fun _ => ⟨(s.low + 16777216 - 1) / 16777216 * 65536, by show (s.low + 16777216 - 1) / 16777216 * 16777216 = _; omega⟩⟩
        · rename_i d1
          split
          · rename_i d2
            exact ⟨b2.1, d2, rfl, fun h => absurd h d1, fun _ => ⟨_, rfl⟩, fun _ => ⟨(s.low + 65536 - 1) / 65536 * 256, by show (s.low + 65536 - 1) / 65536 * 65536 = _; omega⟩⟩
          · rename_i d2
            split
            · rename_i d3
              exact ⟨b3.1, d3, rfl, fun h => absurd h d1, fun h => absurd h d2, fun _ => ⟨_, rfl⟩⟩
            · rename_i d3
              exact ⟨Int.le_refl _, by show s.low < _; omega, rfl, fun h => absurd h d1, fun h => absurd h d2, fun h => absurd h d3⟩
      obtain ⟨v0, v1, ve, v24, v16, v8⟩ := hv
      have ef : fullP s = s.out ++ lit4P (chooseP s.low s.size).1 := by unfold fullP; rw [ve]; rfl
      generalize (chooseP s.low s.size).1 = v at *
      have ev : valP (fullP s) = valP s.out * 4294967296 + v := by rw [ef, lit4_val _ hbd.1 hbd.2]
      refine ⟨by rw [ev]; unfold lowV; omega, by rw [ev]; unfold lowV; omega, ?_, ?_, ?_⟩
      · rw [ef]; intro z hz
        rcases List.mem_append.1 hz with hz | hz
        · exact h.out z hz
        · exact lit4_byt hbd.1 hbd.2 z hz
      · rw [ef, List.length_append]; rfl
      · intro k y h1 h2
        by_cases hk : 4 ≤ k
        · obtain ⟨q, hq⟩ := big k y hk
          rw [hq] at h1 h2
          unfold lowV at h1 h2
          exfalso
          omega
        · unfold lowV at h1 h2
          rcases small k y (by omega) with e | e | e | e
          · rw [e]; exact ⟨valP (fullP s), by omega⟩
          · rw [e] at h1 h2 ⊢
            obtain ⟨z, hz⟩ := v8 (by unfold ceilP; omega)
            exact ⟨valP s.out * 16777216 + z, by rw [ev, hz]; omega⟩
          · rw [e] at h1 h2 ⊢
            obtain ⟨z, hz⟩ := v16 (by unfold ceilP; omega)
            exact ⟨valP s.out * 65536 + z, by rw [ev, hz]; omega⟩
          · rw [e] at h1 h2 ⊢
            obtain ⟨z, hz⟩ := v24 (by unfold ceilP; omega)
            exact ⟨valP s.out * 256 + z, by rw [ev, hz]; omega⟩
end Go.Proofs.Ytfbdenlpoidnjaa.P
-- The coding theorems in plain terms: a codeword restores the symbols, Size bytes suffice, and no shorter string does.
set_option linter.unusedVariables false
set_option linter.unusedSimpArgs false
namespace Go.Proofs.Ytfbdenlpoidnjaa.P
open Go.RowKit Go.Proofs.YtfbdenlpoidnjaaW.PrintWords

theorem trimR_form : ∀ l : List Int, ∃ k, l = List.replicate k 0 ++ trimR l
  | [] => ⟨0, rfl⟩
  | x :: r => by
    rw [trimR]
    split
    · rename_i hx
      obtain ⟨k, hk⟩ := trimR_form r
      refine ⟨k + 1, ?_⟩
      rw [List.replicate_succ, List.cons_append, ← hk, hx]
    · exact ⟨0, rfl⟩
theorem trimP_form (l : List Int) : ∃ k, l = trimP l ++ List.replicate k 0 := by
  obtain ⟨k, hk⟩ := trimR_form l.reverse
  refine ⟨k, ?_⟩
  have h := congrArg List.reverse hk
  rw [List.reverse_reverse, List.reverse_append, List.reverse_replicate] at h
  exact h
theorem nextP_zeros (t : List Int) (k a : Nat) : nextP (t ++ List.replicate k 0) a = nextP t a := by
  unfold nextP
  rw [List.length_append, List.length_replicate]
  by_cases h1 : a < t.length
  · rw [if_pos (by omega), if_pos h1]
    unfold rd
    rw [Int.toNat_natCast, List.getD_eq_getElem?_getD, List.getD_eq_getElem?_getD, List.getElem?_append_left h1]
  · rw [if_neg h1]
    split
    · rename_i h2
      unfold rd
      rw [Int.toNat_natCast, List.getD_eq_getElem?_getD, List.getElem?_append_right (by omega), List.getElem?_replicate, if_pos (by omega)]
      rfl
    · rfl
theorem nextP_trim (l : List Int) (a : Nat) : nextP (trimP l) a = nextP l a := by
  obtain ⟨k, hk⟩ := trimP_form l
  have h := nextP_zeros (trimP l) k a
  rw [← hk] at h
  exact h.symm
theorem numP_congr {b b' : List Int} : ∀ {m : Nat}, (∀ a, a < m → nextP b a = nextP b' a) → numP b m = numP b' m
  | 0, _ => rfl
  | m + 1, h => by
    rw [numP, numP, numP_congr (fun a ha => h a (by omega)), h m (by omega)]
theorem effP_congr {b b' : List Int} : ∀ {j : Nat}, (∀ a, a < j + 4 → nextP b a = nextP b' a) → effP b j = effP b' j
  | 0, h => by rw [effP, effP, numP_congr (fun a ha => h a (by omega))]
  | j + 1, h => by
    rw [effP, effP, effP_congr (fun a ha => h a (by omega)), h (j + 4) (by omega)]
theorem numP_take (l : List Int) : ∀ {m : Nat}, m ≤ l.length → numP l m = valP (l.take m)
  | 0, _ => rfl
  | m + 1, h => by
    rw [numP, numP_take l (by omega), take_last (by omega), valP_snoc]
    unfold nextP
    rw [if_pos (by omega)]
theorem numP_all (l : List Int) : numP l l.length = valP l := by rw [numP_take l (Nat.le_refl _), List.take_length]
theorem byt_trim {l : List Int} (h : Byt l) : Byt (trimP l) := by
  obtain ⟨k, hk⟩ := trimP_form l
  intro z hz
  exact h z (by rw [hk]; exact List.mem_append_left _ hz)
theorem numP_le {b : List Int} (hb : Byt b) : ∀ j : Nat, 0 ≤ numP b 4 → numP b 4 * 256 ^ j ≤ numP b (j + 4)
  | 0, _ => by
    show numP b 4 * 1 ≤ numP b 4
    omega
  | j + 1, h0 => by
    have ih := numP_le hb j h0
    have hn := nextP_bd hb (j + 4)
    have e : numP b (j + 1 + 4) = numP b (j + 4) * 256 + nextP b (j + 4) := rfl
    rw [e, pow256_succ, ← Int.mul_assoc, Int.mul_comm (numP b 4) 256, Int.mul_assoc]
    omega
theorem numP_nn {b : List Int} (hb : Byt b) : ∀ m : Nat, 0 ≤ numP b m
  | 0 => Int.le_refl _
  | m + 1 => by
    have := numP_nn hb m
    have := nextP_bd hb m
    rw [numP]
    omega
theorem eff_num {b : List Int} (h4 : numP b 4 ≤ 4294967294) : ∀ j : Nat, effP b j = numP b (j + 4)
  | 0 => by
    show min (numP b 4) 4294967294 = numP b 4
    omega
  | j + 1 => by
    have e : numP b (j + 1 + 4) = numP b (j + 4) * 256 + nextP b (j + 4) := rfl
    rw [effP, eff_num h4 j, e]
/-- The codeword lies in the interval. -/
theorem term_in {s : EncS} (h : EncOk s) (hI : Inv s) : Byt (termP s) ∧ InI (termP s) s ∧ (termP s).length ≤ s.out.length + 4 := by
  obtain ⟨f1, f2, f3, f4, _⟩ := full_val h hI
  have hb : Byt (termP s) := byt_trim f3
  have hn : numP (termP s) (s.out.length + 4) = valP (fullP s) := by
    rw [← numP_all (fullP s), f4]
    exact numP_congr (fun a _ => nextP_trim (fullP s) a)
  have hI2 : lowV s + s.size ≤ 4294967295 * 256 ^ s.out.length := hI
  have hp := pow256_pos s.out.length
  have h4 : numP (termP s) 4 ≤ 4294967294 := by
    have h1 := numP_le hb s.out.length (numP_nn hb 4)
    have h2 : numP (termP s) 4 * 256 ^ s.out.length < 4294967295 * 256 ^ s.out.length := by omega
    have h3 := Int.lt_of_mul_lt_mul_right h2 (by omega)
    omega
  refine ⟨hb, ?_, ?_⟩
  · unfold InI
    rw [eff_num h4, hn]
    exact ⟨f1, f2⟩
  · obtain ⟨k, hk⟩ := trimP_form (fullP s)
    have h5 := congrArg List.length hk
    rw [List.length_append, f4] at h5
    show (trimP (fullP s)).length ≤ _
    omega
/-- An encoder that begins a codeword. -/
def Beg (s : EncS) : Prop := s.out = [] ∧ s.low = 0 ∧ s.size = 4294967295
theorem Beg.inv {s : EncS} (h : Beg s) : Inv s := by
  obtain ⟨p, out, low, size, bg⟩ := s
  obtain ⟨rfl, rfl, rfl⟩ := h
  exact inv_start p bg
theorem Beg.sim {s : EncS} (h : Beg s) (b : List Int) (d : DecS) (hp : d.p = s.p) : SimD b s (startD d b) := by
  obtain ⟨p, out, low, size, bg⟩ := s
  obtain ⟨rfl, rfl, rfl⟩ := h
  exact sim_start b p bg d hp
theorem newE_beg (n : Nat) : Beg (newE n) := ⟨rfl, rfl, rfl⟩
theorem termE_beg (s : EncS) : Beg (termE s) := ⟨rfl, rfl, rfl⟩
theorem encL_append (s : EncS) (l m : List S69) : encL s (l ++ m) = encL (encL s l) m := by unfold encL; rw [List.foldl_append]
/-- A codeword restores its symbols. -/
theorem restores {s : EncS} {d : DecS} {l : List S69} (hs : EncOk s) (hB : Beg s) (hp : d.p = s.p) (ho : SymOk s.p.length l) :
    (decL (startD d (termP (encL s l))) l).1 = l.length ∧ (decL (startD d (termP (encL s l))) l).2.p = (encL s l).p := by
  obtain ⟨o1, o2, o3⟩ := encL_ok hs ho
  obtain ⟨hb, hin, _⟩ := term_in o1 (encL_inv hs hB.inv ho)
  obtain ⟨a, b⟩ := sim_all hb (hB.sim (termP (encL s l)) d hp) hs hB.inv ho hin
  exact ⟨a, b.p⟩
theorem SymOk.left {n : Nat} {l m : List S69} (h : SymOk n (l ++ m)) : SymOk n l := fun z hz => h z (List.mem_append_left _ hz)
theorem SymOk.right {n : Nat} {l m : List S69} (h : SymOk n (l ++ m)) : SymOk n m := fun z hz => h z (List.mem_append_right _ hz)
/-- A string that begins like the codeword restores the symbols so far. -/
theorem prefixes {s : EncS} {d : DecS} {l m : List S69} {b : List Int} (hs : EncOk s) (hB : Beg s) (hp : d.p = s.p) (ho : SymOk s.p.length (l ++ m)) (hb : Byt b) (hq : ∀ a, a < (encL s l).out.length + 4 → nextP (termP (encL s (l ++ m))) a = nextP b a) :
    (decL (startD d b) l).1 = l.length := by
  obtain ⟨o1, o2, o3⟩ := encL_ok hs ho
  obtain ⟨p1, p2, p3⟩ := encL_ok hs ho.left
  obtain ⟨hbt, hin, _⟩ := term_in o1 (encL_inv hs hB.inv ho)
  have hin' : InI (termP (encL s (l ++ m))) (encL (encL s l) m) := by rw [← encL_append]; exact hin
  have h1 := inI_nest hbt p1 (encL_inv hs hB.inv ho.left) (by rw [p2]; exact ho.right) hin'
  have h2 : InI b (encL s l) := by
    unfold InI at h1 ⊢
    rwa [effP_congr hq] at h1
  exact (sim_all hb (hB.sim b d hp) hs hB.inv ho.left h2).1
theorem trimR_zeros : ∀ (k : Nat) (l : List Int) (z : Int), Byt l → k ≤ l.length → valR l = z * 256 ^ k → (trimR l).length + k ≤ l.length
  | 0, l, z, hb, hk, h => by
    obtain ⟨j, hj⟩ := trimR_form l
    have h5 := congrArg List.length hj
    rw [List.length_append] at h5
    omega
  | k + 1, [], z, hb, hk, h => by simp at hk
  | k + 1, x :: r, z, hb, hk, h => by
    have h0 := hb x List.mem_cons_self
    rw [valR, pow256_succ, ← Int.mul_assoc, Int.mul_comm z 256, Int.mul_assoc] at h
    have hx : x = 0 := by omega
    have hr : valR r = z * 256 ^ k := by omega
    have ih := trimR_zeros k r z (fun y hy => hb y (List.mem_cons_of_mem _ hy)) (by rw [List.length_cons] at hk; omega) hr
    rw [trimR, if_pos hx, List.length_cons]
    omega
theorem nextP_out {b : List Int} {a : Nat} (h : b.length ≤ a) : nextP b a = 0 := by unfold nextP; rw [if_neg (by omega)]
theorem numP_div (b : List Int) : ∀ j : Nat, ∃ y, numP b (b.length + j) = y * 256 ^ j
  | 0 => ⟨numP b b.length, by rw [Int.pow_zero, Int.mul_one]; rfl⟩
  | j + 1 => by
    obtain ⟨y, hy⟩ := numP_div b j
    refine ⟨y, ?_⟩
    rw [show b.length + (j + 1) = b.length + j + 1 by omega, numP, hy, nextP_out (by omega), Int.add_zero, Int.pow_succ, Int.mul_assoc]
theorem effP_div (b : List Int) (i : Nat) (hi : b.length ≤ i + 4) : ∀ j : Nat, ∃ y, effP b (i + j) = y * 256 ^ j
  | 0 => ⟨effP b i, by rw [Int.pow_zero, Int.mul_one]; rfl⟩
  | j + 1 => by
    obtain ⟨y, hy⟩ := effP_div b i hi j
    refine ⟨y, ?_⟩
    rw [show i + (j + 1) = i + j + 1 by omega, effP, hy, nextP_out (by omega), Int.add_zero, Int.pow_succ, Int.mul_assoc]
/-- What a string's number is divisible by. -/
theorem eff_div {b : List Int} (hb : Byt b) {n : Nat} (hl : b.length ≤ n + 4) : ∃ y, effP b n = y * 256 ^ (n + 4 - b.length) := by
  by_cases h4 : 4 ≤ b.length
  · obtain ⟨y, hy⟩ := effP_div b (b.length - 4) (by omega) (n + 4 - b.length)
    rw [show b.length - 4 + (n + 4 - b.length) = n by omega] at hy
    exact ⟨y, hy⟩
  · have h3 : numP b 4 = numP b 3 * 256 + nextP b 3 := rfl
    rw [nextP_out (by omega)] at h3
    have hn3 : numP b 3 ≤ 16777215 := by
      have e3 : numP b 3 = ((0 * 256 + nextP b 0) * 256 + nextP b 1) * 256 + nextP b 2 := rfl
      have := nextP_bd hb 0
      have := nextP_bd hb 1
      have := nextP_bd hb 2
      omega
    obtain ⟨y, hy⟩ := numP_div b (n + 4 - b.length)
    rw [show b.length + (n + 4 - b.length) = n + 4 by omega] at hy
    exact ⟨y, by rw [eff_num (by omega) n, hy]⟩
/-- No shorter string is decoded to the same symbols. -/
theorem shortest {s : EncS} {d : DecS} {l : List S69} {b : List Int} (hs : EncOk s) (hB : Beg s) (hp : d.p = s.p) (hdp : DecP d) (ho : SymOk s.p.length l) (hb : Byt b) (hbl : b.length ≤ 1000000) (hlt : b.length < (termP (encL s l)).length) :
    (decL (startD d b) l).1 < l.length := by
  have hle := decL_le (startD d b) l
  rcases Nat.lt_or_ge (decL (startD d b) l).1 l.length with h | h
  · exact h
  · exfalso
    have hc : (decL (startD d b) l).1 = l.length := by omega
    obtain ⟨o1, o2, o3⟩ := encL_ok hs ho
    have hinv := encL_inv hs hB.inv ho
    obtain ⟨_, _, htl⟩ := term_in o1 hinv
    have hS := sim_conv hb (hB.sim b d hp) hs hB.inv ho hc
    have hD := decL_ok (startD_ok hdp hb hbl) (l := l) (by show SymOk d.p.length l; rw [hp]; exact ho)
    have v0 := hD.v0
    have v1 := hD.v1
    rw [hS.value] at v0 v1
    rw [hS.size] at v1
    obtain ⟨y, hy⟩ := eff_div hb (n := (encL s l).out.length) (by omega)
    obtain ⟨f1, f2, f3, f4, f5⟩ := full_val o1 hinv
    obtain ⟨z, hz⟩ := f5 ((encL s l).out.length + 4 - b.length) y (by omega) (by omega)
    have h6 := trimR_zeros ((encL s l).out.length + 4 - b.length) (fullP (encL s l)).reverse z (byt_rev f3) (by rw [List.length_reverse, f4]; omega) hz
    rw [List.length_reverse, f4] at h6
    have h7 : (termP (encL s l)).length = (trimR (fullP (encL s l)).reverse).length := by show (trimP _).length = _; unfold trimP; rw [List.length_reverse]
    omega
/-- A codeword doesn't end with a zero. -/
theorem trimR_head : ∀ l : List Int, ∀ x r, trimR l = x :: r → x ≠ 0
  | [], x, r, h => by cases h
  | y :: q, x, r, h => by
    rw [trimR] at h
    split at h
    · exact trimR_head q x r h
    · rename_i hy
      injection h with h1 _
      rw [← h1]
      exact hy
theorem term_last {s : EncS} (h : 0 < (termP s).length) : rd (termP s) (((termP s).length : Int) - 1) ≠ 0 := by
  have e : termP s = (trimR (fullP s).reverse).reverse := rfl
  have hh := trimR_head (fullP s).reverse
  generalize trimR (fullP s).reverse = t at *
  cases t with
  | nil => rw [e] at h; simp at h
  | cons x r =>
    have h2 := hh x r rfl
    rw [e]
    unfold rd
    rw [List.length_reverse, List.length_cons, show (((r.length + 1 : Nat) : Int) - 1).toNat = r.length by omega, List.reverse_cons, List.getD_eq_getElem?_getD, List.getElem?_append_right (by rw [List.length_reverse]; exact Nat.le_refl _), List.length_reverse, Nat.sub_self]
    exact h2
end Go.Proofs.Ytfbdenlpoidnjaa.P
