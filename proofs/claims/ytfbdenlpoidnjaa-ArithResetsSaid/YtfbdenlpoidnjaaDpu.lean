/- Decode's step in plain terms, and its bounds. -/
import Derived.Test.YtfbdenlpoidnjaaSta
set_option linter.unusedVariables false
set_option linter.unusedSimpArgs false
namespace Go.Proofs.Ytfbdenlpoidnjaa.P
open Go.RowKit Go.Proofs.YtfbdenlpoidnjaaW.PrintWords

/-- The bit, and the value and the range ahead of the renewal. -/
def midD (v size x : Int) : Int × Int × Int := if v < splitP size x then (0, v, splitP size x) else (1, v - splitP size x, size - splitP size x)
/-- A range that is small is enlarged: once is enough. -/
def rnD (data : List Int) (t : Nat × Int × Int) : Nat × Int × Int := if t.2.2 < 16777216 then (nextA data t.1, t.2.1 * 256 + nextP data t.1, t.2.2 * 256) else t
/-- Decode's answer and the decoder behind it. -/
def decE (s : DecS) (i : Nat) : Int × DecS :=
  let m := midD s.value s.size (rd s.p (i : Int))
  let t := rnD s.data (s.at_.toNat, m.2.1, m.2.2)
  (m.1, ⟨s.p.set i (adaptP (rd s.p (i : Int)) m.1), s.data, (t.1 : Int), t.2.1, t.2.2, true⟩)
/-- A decoder's probabilities. -/
structure DecP (s : DecS) : Prop where
  p0 : 0 < s.p.length
  p1 : s.p.length ≤ 64
  p : OkP s.p
/-- What a decoder is that has begun a codeword. -/
structure DecOk (s : DecS) : Prop extends DecP s where
  started : s.started = true
  data : Byt s.data
  len : s.data.length ≤ 1000000
  at0 : 0 ≤ s.at_
  at1 : s.at_ ≤ s.data.length
  v0 : 0 ≤ s.value
  v1 : s.value < s.size
  size0 : 16777216 ≤ s.size
  size1 : s.size ≤ 4294967295
structure DMid (data : List Int) (t : Nat × Int × Int) : Prop where
  a1 : t.1 ≤ data.length
  v0 : 0 ≤ t.2.1
  v1 : t.2.1 < t.2.2
  size0 : 65536 ≤ t.2.2
  size1 : t.2.2 ≤ 4294967295
theorem newD_p (n : Nat) (h0 : 1 ≤ n) (h1 : n ≤ 64) : DecP (newD n) := by
  have h := newE_ok n h0 h1
  exact ⟨h.p0, h.p1, h.p⟩
theorem startD_ok {s : DecS} (h : DecP s) {data : List Int} (hb : Byt data) (hl : data.length ≤ 1000000) : DecOk (startD s data) := by
  obtain ⟨h1, h2, h3⟩ := pullP_bd hb 4 0 0 (Int.le_refl 0)
  refine ⟨⟨h.p0, h.p1, h.p⟩, rfl, hb, hl, ?_, ?_, ?_, ?_, ?_, ?_⟩
  · show 0 ≤ (((pullP data 4 0 0).1 : Nat) : Int); omega
  · show (((pullP data 4 0 0).1 : Nat) : Int) ≤ (data.length : Int); omega
  · show 0 ≤ min (pullP data 4 0 0).2 4294967294; omega
  · show min (pullP data 4 0 0).2 4294967294 < 4294967295; omega
  · show (16777216 : Int) ≤ 4294967295; omega
  · show (4294967295 : Int) ≤ 4294967295; omega
theorem midD_ok {data : List Int} {a : Nat} {v size x : Int} (ha : a ≤ data.length) (v0 : 0 ≤ v) (v1 : v < size) (h0 : 16777216 ≤ size) (h1 : size ≤ 4294967295) (hx : 31 ≤ x ∧ x ≤ 4065) : DMid data (a, (midD v size x).2.1, (midD v size x).2.2) := by
  have hs := splitP_bd h0 h1 hx
  unfold midD
  split
  · rename_i hlt
    exact ⟨ha, v0, hlt, hs.1, by show splitP size x ≤ _; omega⟩
  · rename_i hlt
    exact ⟨ha, by show 0 ≤ v - splitP size x; omega, by show v - splitP size x < size - splitP size x; omega, hs.2.1, by show size - splitP size x ≤ _; omega⟩
theorem nextA_le {data : List Int} {a : Nat} (h : a ≤ data.length) : nextA data a ≤ data.length := by
  unfold nextA
  split <;> omega
theorem rnD_ok {data : List Int} {t : Nat × Int × Int} (hb : Byt data) (h : DMid data t) : DMid data (rnD data t) ∧ 16777216 ≤ (rnD data t).2.2 := by
  obtain ⟨a1, v0, v1, s0, s1⟩ := h
  have hn := nextP_bd hb t.1
  unfold rnD
  split
  · rename_i hlt
    refine ⟨⟨nextA_le a1, ?_, ?_, ?_, ?_⟩, ?_⟩
    · show 0 ≤ t.2.1 * 256 + nextP data t.1; omega
    · show t.2.1 * 256 + nextP data t.1 < t.2.2 * 256; omega
    · show _ ≤ t.2.2 * 256; omega
    · show t.2.2 * 256 ≤ _; omega
    · show _ ≤ t.2.2 * 256; omega
  · exact ⟨⟨a1, v0, v1, s0, s1⟩, by omega⟩
theorem decE_ok {s : DecS} (h : DecOk s) {i : Nat} (hi : i < s.p.length) : DecOk (decE s i).2 := by
  have hx := h.p.get hi
  have ha : s.at_.toNat ≤ s.data.length := by have := h.at1; omega
  obtain ⟨hm, hs⟩ := rnD_ok h.data (midD_ok (x := rd s.p (i : Int)) ha h.v0 h.v1 h.size0 h.size1 hx)
  refine ⟨⟨?_, ?_, h.p.set (adapt_ok hx)⟩, rfl, h.data, h.len, ?_, ?_, hm.v0, hm.v1, hs, hm.size1⟩
  · show 0 < (s.p.set i _).length; rw [List.length_set]; exact h.p0
  · show (s.p.set i _).length ≤ 64; rw [List.length_set]; exact h.p1
  · exact Int.natCast_nonneg _
  · exact Int.ofNat_le.2 hm.a1
theorem decE_bit (s : DecS) (i : Nat) : (decE s i).1 = 0 ∨ (decE s i).1 = 1 := by
  show (midD _ _ _).1 = 0 ∨ (midD _ _ _).1 = 1
  unfold midD
  split
  · exact .inl rfl
  · exact .inr rfl
theorem rnD_step {data : List Int} {a : Nat} {v size : Int} (hb : Byt data) (h : DMid data (a, v, size)) (hlt : size < 16777216) : DMid data (nextA data a, v * 256 + nextP data a, size * 256) ∧ rnD data (nextA data a, v * 256 + nextP data a, size * 256) = rnD data (a, v, size) ∧ ¬ size * 256 < 16777216 := by
  have e : rnD data (a, v, size) = (nextA data a, v * 256 + nextP data a, size * 256) := by unfold rnD; rw [if_pos hlt]
  obtain ⟨h1, h2⟩ := rnD_ok hb h
  rw [e] at h1 h2
  have h3 : ¬ size * 256 < 16777216 := by have : 16777216 ≤ size * 256 := h2; omega
  refine ⟨h1, ?_, h3⟩
  rw [e]
  unfold rnD
  rw [if_neg h3]
end Go.Proofs.Ytfbdenlpoidnjaa.P
