/- A row of symbols, encoded and decoded, in plain terms. -/
import Derived.Test.YtfbdenlpoidnjaaTrm
import Derived.Test.YtfbdenlpoidnjaaSta
import Derived.Test.YtfbdenlpoidnjaaPx0
set_option linter.unusedVariables false
set_option linter.unusedSimpArgs false
namespace Go.Proofs.Ytfbdenlpoidnjaa.P
open Go.RowKit Go.Proofs.YtfbdenlpoidnjaaW.PrintWords

/-- The symbols are valid for so many contexts. -/
def SymOk (n : Nat) (l : List S69) : Prop := ∀ x ∈ l, 0 ≤ x.f0 ∧ x.f0 < n ∧ (x.f1 = 0 ∨ x.f1 = 1)
def encStep (s : EncS) (x : S69) : EncS := encE s x.f0.toNat x.f1
def encL (s : EncS) (l : List S69) : EncS := l.foldl encStep s
def sizesL : EncS → List S69 → List Int
  | _, [] => []
  | s, x :: r => sizeE (encStep s x) :: sizesL (encStep s x) r
theorem encL_snoc (s : EncS) (l : List S69) (x : S69) : encL s (l ++ [x]) = encStep (encL s l) x := by unfold encL; rw [List.foldl_append]; rfl
theorem sizesL_snoc : ∀ (s : EncS) (l : List S69) (x : S69), sizesL s (l ++ [x]) = sizesL s l ++ [sizeE (encStep (encL s l) x)]
  | s, [], x => rfl
  | s, y :: r, x => by
    show sizeE (encStep s y) :: sizesL (encStep s y) (r ++ [x]) = _
    rw [sizesL_snoc]
    rfl
theorem sizesL_length : ∀ (s : EncS) (l : List S69), (sizesL s l).length = l.length
  | s, [] => rfl
  | s, y :: r => by
    show (sizesL (encStep s y) r).length + 1 = r.length + 1
    rw [sizesL_length]
theorem encE_plen (s : EncS) (i : Nat) (bit : Int) : (encE s i bit).p.length = s.p.length := by show (s.p.set i _).length = _; rw [List.length_set]
theorem encStep_ok {s : EncS} (h : EncOk s) {x : S69} (h0 : 0 ≤ x.f0) (h1 : x.f0 < s.p.length) : EncOk (encStep s x) := encE_ok h (by omega) _
theorem encL_ok : ∀ {s : EncS} {l : List S69}, EncOk s → SymOk s.p.length l → EncOk (encL s l) ∧ (encL s l).p.length = s.p.length ∧ (encL s l).out.length ≤ s.out.length + l.length
  | s, [], h, _ => ⟨h, rfl, by simp [encL]⟩
  | s, x :: r, h, hs => by
    have hx := hs x List.mem_cons_self
    have h1 : EncOk (encStep s x) := encStep_ok h hx.1 hx.2.1
    have h2 : (encStep s x).p.length = s.p.length := encE_plen s _ _
    have h3 : (encStep s x).out.length ≤ s.out.length + 1 := encE_length s _ _
    obtain ⟨a, b, c⟩ := encL_ok (s := encStep s x) (l := r) h1 (by rw [h2]; exact fun z hz => hs z (List.mem_cons_of_mem _ hz))
    refine ⟨a, b.trans h2, Nat.le_trans c ?_⟩
    rw [List.length_cons]
    omega
theorem SymOk.take {n : Nat} {l : List S69} (h : SymOk n l) (i : Nat) : SymOk n (l.take i) := fun z hz => h z (List.mem_of_mem_take hz)
theorem take_snocT {l : List S69} {i : Nat} (h : i < l.length) : l.take (i + 1) = l.take i ++ [rd_T69 l (i : Int)] := by
  rw [List.take_succ_eq_append_getElem h]
  unfold rd_T69
  rw [Int.toNat_natCast, List.getD_eq_getElem?_getD, List.getElem?_eq_getElem h]
  rfl
theorem rdT_mem {l : List S69} {i : Nat} (h : i < l.length) : rd_T69 l (i : Int) ∈ l := by
  unfold rd_T69
  rw [Int.toNat_natCast, List.getD_eq_getElem?_getD, List.getElem?_eq_getElem h]
  exact List.getElem_mem h
/-- How many of the symbols are decoded before one differs, and the decoder behind them. -/
def decL : DecS → List S69 → Nat × DecS
  | s, [] => (0, s)
  | s, x :: r => if (decE s x.f0.toNat).1 = x.f1 then ((decL (decE s x.f0.toNat).2 r).1 + 1, (decL (decE s x.f0.toNat).2 r).2) else (0, (decE s x.f0.toNat).2)
end Go.Proofs.Ytfbdenlpoidnjaa.P
