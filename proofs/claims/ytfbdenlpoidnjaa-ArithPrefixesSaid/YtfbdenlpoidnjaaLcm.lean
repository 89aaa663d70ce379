/- What the coding laws share. -/
import Derived.Test.YtfbdenlpoidnjaaAwk
import Derived.Test.YtfbdenlpoidnjaaEcd
import Derived.Test.YtfbdenlpoidnjaaDcd
import Derived.Test.YtfbdenlpoidnjaaBit
import Derived.Test.YtfbdenlpoidnjaaCor
set_option linter.unusedVariables false
set_option linter.unusedSimpArgs false
namespace Go.Proofs.Ytfbdenlpoidnjaa.P
open Go.RowKit Go.Proofs.YtfbdenlpoidnjaaW.PrintWords Go.Proofs.YtfbdenlpoidnjaaW.PrintLast Go.Proofs.YtfbdenlpoidnjaaW.PrintMore

theorem NewEnc.sep (w0 w : World) (n : Nat) (hB : Below w0.heap.size w0 w) (h0 : 1 ≤ n) (h1 : n ≤ 64) : Calls Try.prog 15 #[.int .i64 n] w fun e w' => ∃ g : Nat, e = .returned (.tuple #[.pointer (some ⟨g, 0, none⟩), .int .i64 0]) ∧ EncAt w0.heap.size w' (fun k => w.heap.size ≤ k ∧ k < w'.heap.size) g (newE n) ∧ Below w0.heap.size w0 w' ∧ Below w.heap.size w w' :=
  (NewEncoder.good n w h0 h1).mono fun e w' ⟨g, h1, h2, h3⟩ => ⟨g, h1, (h2.bound.mono (fun k hk => hk.2)).lower hB.size, below_then hB hB.size h3, h3⟩
theorem NewDec.sep (w0 w : World) (n : Nat) (hB : Below w0.heap.size w0 w) (h0 : 1 ≤ n) (h1 : n ≤ 64) : Calls Try.prog 16 #[.int .i64 n] w fun e w' => ∃ g : Nat, e = .returned (.tuple #[.pointer (some ⟨g, 0, none⟩), .int .i64 0]) ∧ DecAt w0.heap.size w' (fun k => w.heap.size ≤ k ∧ k < w'.heap.size) g (newD n) ∧ Below w0.heap.size w0 w' ∧ Below w.heap.size w w' :=
  (NewDecoder.good n w h0 h1).mono fun e w' ⟨g, h1, h2, h3⟩ => ⟨g, h1, (h2.bound.mono (fun k hk => hk.2)).lower hB.size, below_then hB hB.size h3, h3⟩
/-- decoded, where all symbols are restored. -/
theorem decoded.all (w0 w : World) (S : Nat → Prop) (g : Nat) (s : DecS) (A1 : Option Addr) (c1 : Nat) (l : List S69) (A2 : Option Addr) (c2 : Nat) (data : List Int) (hB : Below w0.heap.size w0 w) (h : DecAt w0.heap.size w S g s) (hp : DecP s) (hso : SymOk s.p.length l) (hl : l.length ≤ 2000) (hC : Kd.C k69 w0 A1 l.length l) (hc : l.length ≤ c1) (hD : Kd.C (Kd.int .u8) w A2 data.length data) (hc2 : data.length ≤ c2) (hby : Byt data) (hdl : data.length ≤ 1000000) (hall : (decL (startD s data) l).1 = l.length) :
    Calls Try.prog 18 #[.pointer (some ⟨g, 0, none⟩), .slice A1 l.length c1, .slice A2 data.length c2] w fun e w' => e = .returned (.int .i64 (l.length : Int)) ∧ DecAt w0.heap.size w' (fun k => S k ∨ w.heap.size ≤ k) g (decL (startD s data) l).2 ∧ Below w0.heap.size w0 w' ∧ Kept w w' S := by
  have h1 := decoded.calls w0 w S g s A1 c1 l A2 c2 data hB h hp hso hl hC hc hD hc2 hby hdl
  rwa [hall] at h1
theorem byt_wf {l : List Int} (h : ∀ z ∈ l, (Lit.int .u8 z).wf = true) : Byt l := by
  intro z hz
  have h1 := h z hz
  simp only [Lit.wf, Bool.and_eq_true, decide_eq_true_eq] at h1
  have e0 : IntKind.u8.min = 0 := by decide
  have e1 : IntKind.u8.max = 255 := by decide
  rw [e0, e1] at h1
  omega
end Go.Proofs.Ytfbdenlpoidnjaa.P
