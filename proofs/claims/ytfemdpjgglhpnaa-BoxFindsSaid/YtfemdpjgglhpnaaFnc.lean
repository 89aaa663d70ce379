/- What the calls in the law BoxFinds answer. -/
import Derived.Test.YtfemdpjgglhpnaaPuG
import Derived.Test.YtfemdpjgglhpnaaPuE
import Derived.Test.YtfemdpjgglhpnaaRfi
import Derived.Test.YtfemdpjgglhpnaaAwk
import Derived.Test.YtfemdpjgglhpnaaSam
import Derived.Lib.Hide
set_option linter.unusedVariables false
set_option linter.unusedSimpArgs false
namespace Go.Proofs.Ytfemdpjgglhpnaa.P
open Go.RowKit Go.Proofs.YtfemdpjgglhpnaaW.PrintWords Go.Proofs.YtfemdpjgglhpnaaW.PrintLast Go.Proofs.YtfemdpjgglhpnaaW.PrintMore

/-- The first box with a path, or the zero box. -/
def fR (path : List ByteArray) (l : List S37) : S37 × Bool := match findP path l with
  | none => (⟨⟨#[]⟩, [], []⟩, false)
  | some x => (x, true)
theorem fR_two (p q : ByteArray) (a : List S37) : fR [p, q] a = if (fR [p] a).2 then fR [q] (fR [p] a).1.f2 else (⟨⟨#[]⟩, [], []⟩, false) := by
  unfold fR
  rw [findP, findP]
  cases firstP p a with
  | none => rfl
  | some x => rfl
theorem sameB_refl9 : ∀ x : S37, sameB x x = true
  | x => by
    have h : ∀ l : List S37, sameL l l = true := fun l => tree_ind (fun l => sameL l l = true) (fun l ih => by
      induction l with
      | nil => rw [sameL]
      | cons b r ihr =>
        rw [sameL, sameB_eq, ih b List.mem_cons_self, ihr (fun x hx => ih x (List.mem_cons_of_mem _ hx))]
        simp) l
    rw [sameB_eq, h]
    simp
theorem sameL_refl9 : ∀ l : List S37, sameL l l = true
  | [] => by rw [sameL]
  | b :: r => by rw [sameL, sameB_refl9 b, sameL_refl9 r]; rfl
theorem T14 (W : World) (A : Option Addr) (c : Nat) (l : List S37) (b : Bool) (hf : FewB l = b) (h : k37.C W A l.length l) (hc : l.length ≤ c) : Calls Try.prog 14 #[.slice A l.length c] W fun e w' => e = .returned (.bool b) ∧ Drawn0 W w' := by
  obtain ⟨k, hk⟩ := (Few_ev l).rounds
  rw [hf] at hk
  exact waveletref45_Few.calls k A c l b W h hc hk
theorem F22 (W : World) (A : Option Addr) (c : Nat) (l : List S37) (B : Option Addr) (d : Nat) (path : List ByteArray) (x : S37) (ok : Bool) (hx : fR path l = (x, ok)) (h : k37.C W A l.length l) (hc : l.length ≤ c) (h' : Kd.string.C W B path.length path) (hd : path.length ≤ d) (hp : path.length ≤ 1000) (hs : szL l ≤ 67108864) :
    Calls Try.prog 22 #[.slice A l.length c, .slice B path.length d] W fun e w' => ∃ (A1 : Option Addr) (c1 : Nat) (A2 : Option Addr) (c2 : Nat), e = .returned (.tuple #[.agg #[.string x.f0, .slice A1 x.f1.length c1, .slice A2 x.f2.length c2], .bool ok]) ∧
      (x.f1.length ≤ c1 ∧ (Kd.int .u8).C w' A1 x.f1.length x.f1) ∧ (x.f2.length ≤ c2 ∧ k37.C w' A2 x.f2.length x.f2) ∧ Below W.heap.size W w' := by
  obtain ⟨k, hk⟩ := (find_ev path l hp hs).rounds
  have e : findR path l = (x.f0, x.f1, x.f2, ok) := by
    unfold findR
    unfold fR at hx
    cases hf : findP path l with
    | none => rw [hf] at hx; obtain ⟨rfl, rfl⟩ := Prod.mk.inj hx; rfl
    | some y => rw [hf] at hx; obtain ⟨rfl, rfl⟩ := Prod.mk.inj hx; rfl
  rw [e] at hk
  refine (box_Find.calls k A c l B d path x.f0 x.f1 x.f2 ok W h hc h' hd hk).mono fun e w' ⟨v1, v2, he, h1, h2, hb⟩ => ?_
  obtain ⟨A1, c1, e1, hk1, hC1⟩ := Kd.R_reads h1
  obtain ⟨A2, c2, e2, hk2, hC2⟩ := Kd.R_reads h2
  subst e1 e2
  exact ⟨A1, c1, A2, c2, he, ⟨hk1, hC1⟩, ⟨hk2, hC2⟩, hb⟩
theorem F23 (W : World) (A : Option Addr) (c : Nat) (l : List S37) (B : Option Addr) (d : Nat) (path : List ByteArray) (x : S37) (ok : Bool) (hx : fR path l = (x, ok)) (h : k37.C W A l.length l) (hc : l.length ≤ c) (h' : Kd.string.C W B path.length path) (hd : path.length ≤ d) :
    Calls Try.prog 23 #[.slice A l.length c, .slice B path.length d] W fun e w' => ∃ (A1 : Option Addr) (c1 : Nat) (A2 : Option Addr) (c2 : Nat), e = .returned (.tuple #[.agg #[.string x.f0, .slice A1 x.f1.length c1, .slice A2 x.f2.length c2], .bool ok]) ∧
      (x.f1.length ≤ c1 ∧ (Kd.int .u8).C w' A1 x.f1.length x.f1) ∧ (x.f2.length ≤ c2 ∧ k37.C w' A2 x.f2.length x.f2) ∧ Below W.heap.size W w' := by
  refine (rfind_walk path W A c l B d W (Below.refl _ _) h hc h' hd).mono fun e w' hp => ?_
  unfold fR at hx
  cases hf : findP path l with
  | none =>
    rw [hf] at hx
    obtain ⟨rfl, rfl⟩ := Prod.mk.inj hx
    obtain ⟨he, hb⟩ := FindPost.no_out hf hp
    exact ⟨none, 0, none, 0, he, ⟨Nat.le_refl _, Kd.C_nil _ _⟩, ⟨Nat.le_refl _, Kd.C_nil _ _⟩, hb⟩
  | some y =>
    rw [hf] at hx
    obtain ⟨rfl, rfl⟩ := Prod.mk.inj hx
    obtain ⟨A1, c1, A2, c2, he, h1, h2, hb⟩ := FindPost.yes_out hf hp
    exact ⟨A1, c1, A2, c2, he, ⟨h1.1, Kd.C_below h1.2 hb⟩, ⟨h2.1, Kd.C_below h2.2 hb⟩, hb⟩
theorem F24 (W : World) (x : S37) (A1 : Option Addr) (c1 : Nat) (A2 : Option Addr) (c2 : Nat) (B1 : Option Addr) (d1 : Nat) (B2 : Option Addr) (d2 : Nat) (h1 : x.f1.length ≤ c1 ∧ (Kd.int .u8).C W A1 x.f1.length x.f1) (h2 : x.f2.length ≤ c2 ∧ k37.C W A2 x.f2.length x.f2) (h3 : x.f1.length ≤ d1 ∧ (Kd.int .u8).C W B1 x.f1.length x.f1) (h4 : x.f2.length ≤ d2 ∧ k37.C W B2 x.f2.length x.f2) :
    Calls Try.prog 24 #[.agg #[.string x.f0, .slice A1 x.f1.length c1, .slice A2 x.f2.length c2], .agg #[.string x.f0, .slice B1 x.f1.length d1, .slice B2 x.f2.length d2]] W fun e w' => e = .returned (.bool true) ∧ Below W.heap.size W w' :=
  waveletref45_SameBox.calls x.f0 A1 c1 x.f1 A2 c2 x.f2 x.f0 B1 d1 x.f1 B2 d2 x.f2 true W h1.2 h1.1 h2.2 h2.1 h3.2 h3.1 h4.2 h4.1 (by unfold waveletref45_SameBox.f; rw [sameB_refl9])
theorem F25 (W : World) (A : Option Addr) (c : Nat) (l : List S37) (B : Option Addr) (d : Nat) (m : List S37) (s : Bool) (hs : sameL l m = s) (h : k37.C W A l.length l) (hc : l.length ≤ c) (h' : k37.C W B m.length m) (hd : m.length ≤ d) :
    Calls Try.prog 25 #[.slice A l.length c, .slice B m.length d] W fun e w' => e = .returned (.bool s) ∧ Below W.heap.size W w' :=
  box_Same.calls A c l B d m s W h hc h' hd (by unfold box_Same.f; rw [hs])
theorem F21 (W : World) (A : Option Addr) (c : Nat) (l : List S37) (B : Option Addr) (d : Nat) (m : List S37) (s : Bool) (hs : sameL l m = s) (h : k37.C W A l.length l) (hc : l.length ≤ c) (h' : k37.C W B m.length m) (hd : m.length ≤ d) :
    Calls Try.prog 21 #[.slice A l.length c, .slice B m.length d] W fun e w' => e = .returned (.bool s) ∧ Below W.heap.size W w' :=
  waveletref45_Same.calls A c l B d m s W h hc h' hd (by unfold waveletref45_Same.f; rw [hs])
theorem F13 (W : World) : Calls Try.prog 13 #[] W fun e w' => e = .returned (.bool true) ∧ Below W.heap.size W w' := awake_walk W
theorem F22n (W : World) (A : Option Addr) (c : Nat) (l : List S37) (B : Option Addr) (n d : Nat) (path : List ByteArray) (x : S37) (ok : Bool) (hx : fR path l = (x, ok)) (hn : path.length = n) (h : k37.C W A l.length l) (hc : l.length ≤ c) (h' : Kd.string.C W B n path) (hd : n ≤ d) (hp : n ≤ 1000) (hs : szL l ≤ 67108864) :
    Calls Try.prog 22 #[.slice A l.length c, .slice B n d] W fun e w' => ∃ (A1 : Option Addr) (c1 : Nat) (A2 : Option Addr) (c2 : Nat), e = .returned (.tuple #[.agg #[.string x.f0, .slice A1 x.f1.length c1, .slice A2 x.f2.length c2], .bool ok]) ∧
      (x.f1.length ≤ c1 ∧ (Kd.int .u8).C w' A1 x.f1.length x.f1) ∧ (x.f2.length ≤ c2 ∧ k37.C w' A2 x.f2.length x.f2) ∧ Below W.heap.size W w' := by
  subst hn
  exact F22 W A c l B d path x ok hx h hc h' hd hp hs
theorem F23n (W : World) (A : Option Addr) (c : Nat) (l : List S37) (B : Option Addr) (n d : Nat) (path : List ByteArray) (x : S37) (ok : Bool) (hx : fR path l = (x, ok)) (hn : path.length = n) (h : k37.C W A l.length l) (hc : l.length ≤ c) (h' : Kd.string.C W B n path) (hd : n ≤ d) :
    Calls Try.prog 23 #[.slice A l.length c, .slice B n d] W fun e w' => ∃ (A1 : Option Addr) (c1 : Nat) (A2 : Option Addr) (c2 : Nat), e = .returned (.tuple #[.agg #[.string x.f0, .slice A1 x.f1.length c1, .slice A2 x.f2.length c2], .bool ok]) ∧
      (x.f1.length ≤ c1 ∧ (Kd.int .u8).C w' A1 x.f1.length x.f1) ∧ (x.f2.length ≤ c2 ∧ k37.C w' A2 x.f2.length x.f2) ∧ Below W.heap.size W w' := by
  subst hn
  exact F23 W A c l B d path x ok hx h hc h' hd
/-- What Find hands back is new: it is read in every world that keeps the blocks made meanwhile. -/
theorem F22k (W : World) (A : Option Addr) (c : Nat) (l : List S37) (B : Option Addr) (n d : Nat) (path : List ByteArray) (x : S37) (ok : Bool) (hx : fR path l = (x, ok)) (hn : path.length = n) (h : k37.C W A l.length l) (hc : l.length ≤ c) (h' : Kd.string.C W B n path) (hd : n ≤ d) (hp : n ≤ 1000) (hs : szL l ≤ 67108864) :
    Calls Try.prog 22 #[.slice A l.length c, .slice B n d] W fun e w' => ∃ (A1 : Option Addr) (c1 : Nat) (A2 : Option Addr) (c2 : Nat), e = .returned (.tuple #[.agg #[.string x.f0, .slice A1 x.f1.length c1, .slice A2 x.f2.length c2], .bool ok]) ∧
      (∀ W2 : World, (∀ k, W.heap.size ≤ k → k < w'.heap.size → W2.heap[k]? = w'.heap[k]?) → (x.f1.length ≤ c1 ∧ (Kd.int .u8).C W2 A1 x.f1.length x.f1) ∧ (x.f2.length ≤ c2 ∧ k37.C W2 A2 x.f2.length x.f2)) ∧ Below W.heap.size W w' := by
  subst hn
  obtain ⟨k, hk⟩ := (find_ev path l hp hs).rounds
  have e : findR path l = (x.f0, x.f1, x.f2, ok) := by
    unfold findR
    unfold fR at hx
    cases hf : findP path l with
    | none => rw [hf] at hx; obtain ⟨rfl, rfl⟩ := Prod.mk.inj hx; rfl
    | some y => rw [hf] at hx; obtain ⟨rfl, rfl⟩ := Prod.mk.inj hx; rfl
  rw [e] at hk
  refine (box_Find.calls k A c l B d path x.f0 x.f1 x.f2 ok W h hc h' hd hk).mono fun e w' ⟨v1, v2, he, h1, h2, hb⟩ => ?_
  obtain ⟨A1, c1, e1⟩ := Kd.R_slice h1
  obtain ⟨A2, c2, e2⟩ := Kd.R_slice h2
  subst e1 e2
  refine ⟨A1, c1, A2, c2, he, fun W2 hW => ⟨?_, ?_⟩, hb⟩
  · have := Kd.R_reads' (Kd.R_step (Kd.R_bound h1) (fun k hk hlt => hW k hk.2.1 hlt))
    exact this.2
  · have := Kd.R_reads' (Kd.R_step (Kd.R_bound h2) (fun k hk hlt => hW k hk.2.1 hlt))
    exact this.2
theorem lit1S (W : World) (p : ByteArray) : Kd.string.C (W.alloc (.cells #[.string p] 9)) (some ⟨W.heap.size, 0, none⟩) 1 [p] := litS W [p] (by simp)
/-- The two strings of a path. -/
theorem path_two {w : World} {A : Option Addr} {p q : ByteArray} (h : Kd.string.C w A 2 [p, q]) : ∃ bd, A = some bd ∧ w.cell? bd = some (.string p) ∧ w.cell? ⟨bd.block, bd.off + 1, none⟩ = some (.string q) := by
  obtain ⟨bd, cs, eb, _, hK, hcs⟩ := Kd.C_get h p 0 (by omega) (by simp)
  have hK2 : cs = [.string p] := hK
  subst hK2
  obtain ⟨bd', cs', eb', _, hK', hcs'⟩ := Kd.C_get h q 1 (by omega) (by simp)
  have hK2' : cs' = [.string q] := hK'
  subst hK2'
  subst eb
  obtain rfl := Option.some.inj eb'
  refine ⟨bd, rfl, ?_, ?_⟩
  · have := hcs 0 (.string p) rfl
    simpa [Addr.add] using this
  · have := hcs' 0 (.string q) rfl
    simpa [Addr.add, show Kd.string.sz = 1 from rfl] using this
/-- What Find answers is no larger than where it looked. -/
theorem firstP_mem {t : ByteArray} : ∀ {l : List S37} {x : S37}, firstP t l = some x → x ∈ l
  | b :: r, x, h => by
    rw [firstP] at h
    split at h
    · obtain rfl := Option.some.inj h; exact List.mem_cons_self
    · exact List.mem_cons_of_mem _ (firstP_mem h)
theorem fR_sz (p : ByteArray) (l : List S37) (m : Nat) (hs : szL l ≤ m) : szL (fR [p] l).1.f2 ≤ m := by
  unfold fR
  rw [findP]
  cases h : firstP p l with
  | none => show szL [] ≤ m; rw [szL]; exact Nat.zero_le _
  | some x => exact (sz_inner (firstP_mem h) hs).1
end Go.Proofs.Ytfemdpjgglhpnaa.P
