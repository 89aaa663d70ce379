/- What the reference's SameBox and Same answer: whether two boxes, two lists of boxes, are equal. -/
import Derived.Test.YtfemdpjgglhpnaaPuA
import Derived.LoopTactic
import Derived.WalkSpells
import Derived.Outline
import Derived.Lib.Hide
import Derived.Deep.RegionHeld3
import Derived.Deep.DrawnRows
set_option linter.unusedVariables false
set_option linter.unusedSimpArgs false
namespace Go.Proofs.Ytfemdpjgglhpnaa.P
open Go.RowKit Go.Proofs.YtfemdpjgglhpnaaW.PrintWords Go.Proofs.YtfemdpjgglhpnaaW.PrintLast Go.Proofs.YtfemdpjgglhpnaaW.PrintMore

mutual
def sameB : S37 → S37 → Bool
  | ⟨t, p, l⟩, ⟨t', p', l'⟩ => (t.toList == t'.toList && (strOfNums p).toList == (strOfNums p').toList) && sameL l l'
def sameL : List S37 → List S37 → Bool
  | [], [] => true
  | a :: l, b :: l' => sameB a b && sameL l l'
  | [], _ :: _ => false
  | _ :: _, [] => false
end
theorem sameB_eq (x y : S37) : sameB x y = ((x.f0.toList == y.f0.toList && (strOfNums x.f1).toList == (strOfNums y.f1).toList) && sameL x.f2 y.f2) := by
  cases x; cases y; rw [sameB]
theorem sameL_length : ∀ {l l' : List S37}, sameL l l' = true → l.length = l'.length
  | [], [], _ => rfl
  | a :: l, b :: l', h => by
    rw [sameL, Bool.and_eq_true] at h
    rw [List.length_cons, List.length_cons, sameL_length h.2]
  | [], _ :: _, h => by simp [sameL] at h
  | _ :: _, [], h => by simp [sameL] at h
theorem sameL_ne {l l' : List S37} (h : l.length ≠ l'.length) : sameL l l' = false := by
  cases e : sameL l l' with
  | false => rfl
  | true => exact absurd (sameL_length e) h
theorem sameL_step {l l' : List S37} (i : Nat) (h : i < l.length) (h' : i < l'.length) : sameL (l.drop i) (l'.drop i) = (sameB (rd_T37 l i) (rd_T37 l' i) && sameL (l.drop (i + 1)) (l'.drop (i + 1))) := by
  rw [List.drop_eq_getElem_cons h, List.drop_eq_getElem_cons h', sameL]
  simp [rd_T37, h, h']
def waveletref45_SameBox.f (a0_0 : ByteArray) (l0_1 : List Int) (l0_2 : List S37) (a1_0 : ByteArray) (l1_1 : List Int) (l1_2 : List S37) : Option Bool := some (sameB ⟨a0_0, l0_1, l0_2⟩ ⟨a1_0, l1_1, l1_2⟩)
def waveletref45_Same.f (l0 l1 : List S37) : Option Bool := some (sameL l0 l1)

/-- What Same answers of lists smaller than n. -/
abbrev SameBelow (n : Nat) : Prop := ∀ (A0 : Option Addr) (c0 : Nat) (l0 : List S37) (A1 : Option Addr) (c1 : Nat) (l1 : List S37) (w : World), SizeOf.sizeOf l0 < n → Kd.C k37 w A0 l0.length l0 → l0.length ≤ c0 → Kd.C k37 w A1 l1.length l1 → l1.length ≤ c1 →
  Calls Try.prog 21 #[.slice A0 l0.length c0, .slice A1 l1.length c1] w fun e w' => e = .returned (.bool (sameL l0 l1)) ∧ Below w.heap.size w w'

set_option maxHeartbeats 4000000 in
set_option maxRecDepth 100000 in
theorem sameBox_walk (n : Nat) (ih : SameBelow n) (x y : S37) (A1 : Option Addr) (c1 : Nat) (A2 : Option Addr) (c2 : Nat) (B1 : Option Addr) (d1 : Nat) (B2 : Option Addr) (d2 : Nat) (w : World) (hn : SizeOf.sizeOf x.f2 < n)
    (h1 : Kd.C (Kd.int .u8) w A1 x.f1.length x.f1) (k1 : x.f1.length ≤ c1) (h2 : Kd.C k37 w A2 x.f2.length x.f2) (k2 : x.f2.length ≤ c2)
    (g1 : Kd.C (Kd.int .u8) w B1 y.f1.length y.f1) (m1 : y.f1.length ≤ d1) (g2 : Kd.C k37 w B2 y.f2.length y.f2) (m2 : y.f2.length ≤ d2) :
    Calls Try.prog 24 #[.agg #[.string x.f0, .slice A1 x.f1.length c1, .slice A2 x.f2.length c2], .agg #[.string y.f0, .slice B1 y.f1.length d1, .slice B2 y.f2.length d2]] w fun e w' => e = .returned (.bool (sameB x y)) ∧ Below w.heap.size w w' := by
  have HW := Aside0.mk (below_alloc (below_alloc (Below.refl w.heap.size w) (.cells #[.string x.f0, .slice A1 x.f1.length c1, .slice A2 x.f2.length c2] 37)) (.cells #[.string y.f0, .slice B1 y.f1.length d1, .slice B2 y.f2.length d2] 37))
  have hv1 : (convert 26 9 (.slice A1 x.f1.length c1)).run Try.prog ((w.alloc (.cells #[.string x.f0, .slice A1 x.f1.length c1, .slice A2 x.f2.length c2] 37)).alloc (.cells #[.string y.f0, .slice B1 y.f1.length d1, .slice B2 y.f2.length d2] 37)) = .ok (.string (strOfNums x.f1)) _ := Kd.C_string Try.underlying26 Try.underlying5 Try.underlying9 (Kd.C_below h1 HW.out)
  have hv2 : (convert 26 9 (.slice B1 y.f1.length d1)).run Try.prog ((w.alloc (.cells #[.string x.f0, .slice A1 x.f1.length c1, .slice A2 x.f2.length c2] 37)).alloc (.cells #[.string y.f0, .slice B1 y.f1.length d1, .slice B2 y.f2.length d2] 37)) = .ok (.string (strOfNums y.f1)) _ := Kd.C_string Try.underlying26 Try.underlying5 Try.underlying9 (Kd.C_below g1 HW.out)
  have HS := Lib.hid (sameB_eq x y)
  have H2 := Aside0.mk (And.intro (Kd.C_below h2 HW.out) k2)
  have G2 := Aside0.mk (And.intro (Kd.C_below g2 HW.out) m2)
  have HN := Aside0.mk hn
  have IH := Aside0.mk ih
  clear h1 h2 g1 g2 hn ih
  cases e0 : (x.f0.toList == y.f0.toList) with
  | false =>
    have HE := Lib.hid e0
    go_enter Try.func24, Try.ntmps24
    go_wp2
    go_ret
    exact ⟨by rw [HS.out, HE.out]; rfl, HW.out⟩
  | true =>
    have HE := Lib.hid e0
    cases e1 : ((strOfNums x.f1).toList == (strOfNums y.f1).toList) with
    | false =>
      have HE1 := Lib.hid e1
      go_enter Try.func24, Try.ntmps24
      go_wp2
      go_ret
      exact ⟨by rw [HS.out, HE.out, HE1.out]; rfl, HW.out⟩
    | true =>
      have HE1 := Lib.hid e1
      go_enter Try.func24, Try.ntmps24
      go_wp2_with (go_at_call 21; (with_reducible refine (IH.out _ _ x.f2 _ _ y.f2 _ HN.out H2.out.1 H2.out.2 G2.out.1 G2.out.2).mono ?_); rintro e w' ⟨rfl, hb⟩)
      go_ret
      exact ⟨by rw [HS.out, HE.out, HE1.out]; rfl, below_then HW.out HW.out.size hb⟩

def SameL (b : Bool) (w : World) (e : Ending) (w' : World) : Prop := e = .returned (.bool b) ∧ Below w.heap.size w w'
set_option maxHeartbeats 4000000 in
set_option maxRecDepth 100000 in
theorem same_walk : ∀ n, SameBelow n
  | 0 => fun _ _ _ _ _ _ _ h => absurd h (by omega)
  | n + 1 => by
    have IH := Aside0.mk (same_walk n)
    intro A0 c0 l0 A1 c1 l1 w hn hr0 hc0 hr1 hc1
    have hm0 := hr0.2.1
    have hm1 := hr1.2.1
    obtain ⟨L, hL⟩ : ∃ L, L = l0.length := ⟨_, rfl⟩
    obtain ⟨L', hL'⟩ : ∃ L', L' = l1.length := ⟨_, rfl⟩
    have HR0 := Aside0.mk hr0
    have HR1 := Aside0.mk hr1
    rw [← hL, ← hL']
    rw [← hL] at hm0
    rw [← hL'] at hm1
    have HN := Aside0.mk hn
    by_cases hne : L = L'
    case neg =>
      have HS := Lib.hid (sameL_ne (l := l0) (l' := l1) (by omega))
      have e1 : ((L : Int) != (L' : Int)) = true := by simp; omega
      have e2 : ((L : Int) == (L' : Int)) = false := by simp; omega
      have e3 : (L == L') = false := by simpa using hne
      clear hn hr0 hr1 hL hL' hne
      go_enter Try.func21, Try.ntmps21
      go_wp2
      go_ret
      exact ⟨by rw [HS.out]; rfl, Below.refl _ _⟩
    case pos =>
      subst hne
      have HL := Lib.hid hL
      have HL' := Lib.hid hL'
      clear hn hr0 hr1 hL hL'
      go_enter Try.func21, Try.ntmps21
      go_wp2
      go_loopg [5] (L + 1) (fun kq v5 w' => ∃ i : Nat, v5 = .int .i64 i ∧ Aside0 (i ≤ L ∧ kq + i = L + 1 ∧ sameL (l0.drop i) (l1.drop i) = sameL l0 l1) ∧ Aside0 (Below w.heap.size w w'))
      case atStart => exact ⟨0, by first | rfl | simp, ⟨by omega, by omega, rfl⟩, ⟨Below.refl _ _⟩⟩
      case round =>
        obtain ⟨i, rfl, HI, HB⟩ := hrel
        have hi0 : (0 : Int) ≤ (i : Int) := by omega
        have hiL := HI.out.1
        by_cases hi : i < L
        · have hlt : (i : Int) < (L : Int) := by omega
          have hi1 : (i : Int) ≤ 9223372036854775806 := by omega
          have hst := sameL_step (l := l0) (l' := l1) i (by have := HL.out; omega) (by have := HL'.out; omega)
          rw [HI.out.2.2] at hst
          have hsz : SizeOf.sizeOf (rd_T37 l0 i).f2 < n := by
            have hlt0 : i < l0.length := by have := HL.out; omega
            have e : rd_T37 l0 i = l0[i] := by simp [rd_T37, hlt0]
            have h1 := List.sizeOf_lt_of_mem (List.getElem_mem hlt0)
            have h2 := HN.out
            rw [e]
            cases hx : l0[i] with
            | mk a b c =>
              rw [hx] at h1
              simp only [S37.mk.sizeOf_spec] at h1
              show SizeOf.sizeOf c < n
              omega
          have HSZ := Aside0.mk hsz
          have HST := Lib.hid hst
          obtain ⟨ad, A11, c11, A12, c12, ea, hx0, hx1, hx2, q1, q2, q3, q4⟩ := at_T37 HR0.out (i : Int) (by omega) (by have := HL.out; omega)
          obtain ⟨ad', B11, d11, B12, d12, ea', hy0, hy1, hy2, p1, p2, p3, p4⟩ := at_T37 HR1.out (i : Int) (by omega) (by have := HL'.out; omega)
          cases ea
          cases ea'
          rw [Int.toNat_natCast] at hx0 hx1 hx2 hy0 hy1 hy2
          generalize hX : rd_T37 l0 (i : Int) = X at *
          generalize hY : rd_T37 l1 (i : Int) = Y at *
          have HQ := Aside0.mk (And.intro (And.intro q1 q2) (And.intro q3 q4))
          have HP := Aside0.mk (And.intro (And.intro p1 p2) (And.intro p3 p4))
          have HX0 := Aside0.mk (And.intro hx0 (And.intro hx1 hx2))
          have HY0 := Aside0.mk (And.intro hy0 (And.intro hy1 hy2))
          have HB2 := Aside0.mk (below_drew HB.out)
          have z0 := pw_cell_below HB2.out hx0
          have z1 := pw_cell_below HB2.out hx1
          have z2 := pw_cell_below HB2.out hx2
          have u0 := pw_cell_below HB2.out hy0
          have u1 := pw_cell_below HB2.out hy1
          have u2 := pw_cell_below HB2.out hy2
          have HLT := Aside0.mk hi
          clear hst hsz q1 q2 q3 q4 p1 p2 p3 p4 hx0 hx1 hx2 hy0 hy1 hy2 hi hX hY hiL
          cases hs : sameB X Y with
          | false =>
            have HSB := Lib.hid hs
            go_wp2
            go_region_held3 (fun W => W.cell? (ad.add (i * 3)) = some (.string X.f0) ∧ W.cell? ⟨(ad.add (i * 3)).block, (ad.add (i * 3)).off + 1, none⟩ = some (.slice A11 X.f1.length c11) ∧ W.cell? ⟨(ad.add (i * 3)).block, (ad.add (i * 3)).off + 2, none⟩ = some (.slice A12 X.f2.length c12) ∧ W.cell? (ad'.add (i * 3)) = some (.string Y.f0) ∧ W.cell? ⟨(ad'.add (i * 3)).block, (ad'.add (i * 3)).off + 1, none⟩ = some (.slice B11 Y.f1.length d11) ∧ W.cell? ⟨(ad'.add (i * 3)).block, (ad'.add (i * 3)).off + 2, none⟩ = some (.slice B12 Y.f2.length d12)) (first | exact ⟨pw_cell_below hb z0, pw_cell_below hb z1, pw_cell_below hb z2, pw_cell_below hb u0, pw_cell_below hb u1, pw_cell_below hb u2⟩ | go_keep | assumption)
              ((go_at_call 24; (with_reducible refine (sameBox_walk n IH.out X Y A11 c11 A12 c12 B11 d11 B12 d12 _ HSZ.out (Kd.C_below HQ.out.1.2 HB2.out) HQ.out.1.1 (Kd.C_below HQ.out.2.2 HB2.out) HQ.out.2.1 (Kd.C_below HP.out.1.2 HB2.out) HP.out.1.1 (Kd.C_below HP.out.2.2 HB2.out) HP.out.2.1).mono ?_); rintro e w' ⟨rfl, hb⟩))
            all_goals go_wp2
            all_goals go_ret
            all_goals exact ⟨by rw [HST.out, HSB.out]; rfl, below_then HB2.out HB2.out.size (by assumption)⟩
          | true =>
            have HSB := Lib.hid hs
            go_wp2
            go_region_held3 (fun W => W.cell? (ad.add (i * 3)) = some (.string X.f0) ∧ W.cell? ⟨(ad.add (i * 3)).block, (ad.add (i * 3)).off + 1, none⟩ = some (.slice A11 X.f1.length c11) ∧ W.cell? ⟨(ad.add (i * 3)).block, (ad.add (i * 3)).off + 2, none⟩ = some (.slice A12 X.f2.length c12) ∧ W.cell? (ad'.add (i * 3)) = some (.string Y.f0) ∧ W.cell? ⟨(ad'.add (i * 3)).block, (ad'.add (i * 3)).off + 1, none⟩ = some (.slice B11 Y.f1.length d11) ∧ W.cell? ⟨(ad'.add (i * 3)).block, (ad'.add (i * 3)).off + 2, none⟩ = some (.slice B12 Y.f2.length d12)) (first | exact ⟨pw_cell_below hb z0, pw_cell_below hb z1, pw_cell_below hb z2, pw_cell_below hb u0, pw_cell_below hb u1, pw_cell_below hb u2⟩ | go_keep | assumption)
              ((go_at_call 24; (with_reducible refine (sameBox_walk n IH.out X Y A11 c11 A12 c12 B11 d11 B12 d12 _ HSZ.out (Kd.C_below HQ.out.1.2 HB2.out) HQ.out.1.1 (Kd.C_below HQ.out.2.2 HB2.out) HQ.out.2.1 (Kd.C_below HP.out.1.2 HB2.out) HP.out.1.1 (Kd.C_below HP.out.2.2 HB2.out) HP.out.2.1).mono ?_); rintro e w' ⟨rfl, hb⟩))
            all_goals go_wp2
            all_goals go_roundg (gk - 1)
            case measure => have := HI.out; omega
            case rel => exact ⟨i + 1, by first | rfl | simp, ⟨by have := HLT.out; omega, by have := HI.out; have := HLT.out; omega, by rw [HST.out, HSB.out]; rfl⟩, ⟨below_then HB2.out HB2.out.size (by assumption)⟩⟩
        · have hge : ¬ (i : Int) < (L : Int) := by omega
          have hfin : sameL l0 l1 = true := by
            rw [← HI.out.2.2, List.drop_eq_nil_of_le (by have := HL.out; omega), List.drop_eq_nil_of_le (by have := HL'.out; omega), sameL]
          have HF := Lib.hid hfin
          clear hfin hi
          go_wp2
          go_ret
          exact ⟨by rw [HF.out]; rfl, HB.out⟩
/-- What box.Same answers of lists smaller than n. -/
abbrev BSameBelow (n : Nat) : Prop := ∀ (A0 : Option Addr) (c0 : Nat) (l0 : List S37) (A1 : Option Addr) (c1 : Nat) (l1 : List S37) (w : World), SizeOf.sizeOf l0 < n → Kd.C k37 w A0 l0.length l0 → l0.length ≤ c0 → Kd.C k37 w A1 l1.length l1 → l1.length ≤ c1 →
  Calls Try.prog 25 #[.slice A0 l0.length c0, .slice A1 l1.length c1] w fun e w' => e = .returned (.bool (sameL l0 l1)) ∧ Below w.heap.size w w'
set_option maxHeartbeats 4000000 in
set_option maxRecDepth 100000 in
theorem bsame_walk : ∀ n, BSameBelow n
  | 0 => fun _ _ _ _ _ _ _ h => absurd h (by omega)
  | n + 1 => by
    have IH := Aside0.mk (bsame_walk n)
    intro A0 c0 l0 A1 c1 l1 w hn hr0 hc0 hr1 hc1
    have hm0 := hr0.2.1
    have hm1 := hr1.2.1
    obtain ⟨L, hL⟩ : ∃ L, L = l0.length := ⟨_, rfl⟩
    obtain ⟨L', hL'⟩ : ∃ L', L' = l1.length := ⟨_, rfl⟩
    have HR0 := Aside0.mk hr0
    have HR1 := Aside0.mk hr1
    rw [← hL, ← hL']
    rw [← hL] at hm0
    rw [← hL'] at hm1
    have HN := Aside0.mk hn
    by_cases hne : L = L'
    case neg =>
      have HS := Lib.hid (sameL_ne (l := l0) (l' := l1) (by omega))
      have e1 : ((L : Int) != (L' : Int)) = true := by simp; omega
      have e2 : ((L : Int) == (L' : Int)) = false := by simp; omega
      have e3 : (L == L') = false := by simpa using hne
      clear hn hr0 hr1 hL hL' hne
      go_enter Try.func25, Try.ntmps25
      go_wp2
      go_ret
      exact ⟨by rw [HS.out]; rfl, Below.refl _ _⟩
    case pos =>
      subst hne
      have HL := Lib.hid hL
      have HL' := Lib.hid hL'
      clear hn hr0 hr1 hL hL'
      go_enter Try.func25, Try.ntmps25
      go_wp2
      go_loopg [14] (L + 1) (fun kq v5 w' => ∃ i : Nat, v5 = .int .i64 i ∧ Aside0 (i ≤ L ∧ kq + i = L + 1 ∧ sameL (l0.drop i) (l1.drop i) = sameL l0 l1) ∧ Aside0 (Below w.heap.size w w'))
      case atStart => exact ⟨0, by first | rfl | simp, ⟨by omega, by omega, rfl⟩, ⟨Below.refl _ _⟩⟩
      case round =>
        obtain ⟨i, rfl, HI, HB⟩ := hrel
        have hi0 : (0 : Int) ≤ (i : Int) := by omega
        have hiL := HI.out.1
        by_cases hi : i < L
        · have hlt : (i : Int) < (L : Int) := by omega
          have hi1 : (i : Int) ≤ 9223372036854775806 := by omega
          have hst := sameL_step (l := l0) (l' := l1) i (by have := HL.out; omega) (by have := HL'.out; omega)
          rw [HI.out.2.2] at hst
          have hsz : SizeOf.sizeOf (rd_T37 l0 i).f2 < n := by
            have := rd_size (l := l0) (i := i) (by have := HL.out; omega)
            have := HN.out
            omega
          have HSZ := Aside0.mk hsz
          have HST := Lib.hid hst
          have HLT := Aside0.mk hi
          obtain ⟨ad, A11, c11, A12, c12, ea, hx0, hx1, hx2, q1, q2, q3, q4⟩ := at_T37 HR0.out (i : Int) (by omega) (by have := HL.out; omega)
          obtain ⟨ad', B11, d11, B12, d12, ea', hy0, hy1, hy2, p1, p2, p3, p4⟩ := at_T37 HR1.out (i : Int) (by omega) (by have := HL'.out; omega)
          cases ea
          cases ea'
          rw [Int.toNat_natCast] at hx0 hx1 hx2 hy0 hy1 hy2
          generalize hX : rd_T37 l0 (i : Int) = X at *
          generalize hY : rd_T37 l1 (i : Int) = Y at *
          have HQ := Aside0.mk (And.intro (And.intro q1 q2) (And.intro q3 q4))
          have HP := Aside0.mk (And.intro (And.intro p1 p2) (And.intro p3 p4))
          have z0 := pw_cell_below HB.out hx0
          have z1 := pw_cell_below HB.out hx1
          have z2 := pw_cell_below HB.out hx2
          obtain ⟨O, hO⟩ : ∃ O : Obj, O = .cells #[.string X.f0, .slice A11 X.f1.length c11, .slice A12 X.f2.length c12] 37 := ⟨_, rfl⟩
          have HB1 := Aside0.mk (below_drew (below_alloc HB.out O))
          have u0 := pw_cell_below HB1.out hy0
          have u1 := pw_cell_below HB1.out hy1
          have u2 := pw_cell_below HB1.out hy2
          have hv1 : (convert 26 9 (.slice A11 X.f1.length c11)).run Try.prog (wr.alloc O).drew = .ok (.string (strOfNums X.f1)) _ := Kd.C_string Try.underlying26 Try.underlying5 Try.underlying9 (Kd.C_below q2 HB1.out)
          have hv2 : (convert 26 9 (.slice B11 Y.f1.length d11)).run Try.prog (wr.alloc O).drew = .ok (.string (strOfNums Y.f1)) _ := Kd.C_string Try.underlying26 Try.underlying5 Try.underlying9 (Kd.C_below p2 HB1.out)
          have HB3 := Aside0.mk (below_alloc HB.out O)
          have hv3 : ∀ m : Nat, (convert 26 9 (.slice A11 X.f1.length c11)).run Try.prog ((wr.alloc O).drewN m) = .ok (.string (strOfNums X.f1)) ((wr.alloc O).drewN m) := fun m => Kd.C_string Try.underlying26 Try.underlying5 Try.underlying9 (Kd.C_below q2 (pw_below_drewN HB3.out m))
          have hv4 : ∀ m : Nat, (convert 26 9 (.slice B11 Y.f1.length d11)).run Try.prog ((wr.alloc O).drewN m) = .ok (.string (strOfNums Y.f1)) ((wr.alloc O).drewN m) := fun m => Kd.C_string Try.underlying26 Try.underlying5 Try.underlying9 (Kd.C_below p2 (pw_below_drewN HB3.out m))
          have y0 := pw_cell_below HB3.out hy0
          have y1 := pw_cell_below HB3.out hy1
          have y2 := pw_cell_below HB3.out hy2
          have bk : ((wr.alloc O).drew).heap[wr.heap.size]? = some (.cells #[.string X.f0, .slice A11 X.f1.length c11, .slice A12 X.f2.length c12] 37) := by rw [← hO]; exact heap_alloc_new wr O
          have g0 : ((wr.alloc O).drew).cell? ⟨wr.heap.size, 0, none⟩ = some (.string X.f0) := (blk_cell bk 0).trans rfl
          have g1 : ((wr.alloc O).drew).cell? ⟨wr.heap.size, 1, none⟩ = some (.slice A11 X.f1.length c11) := (blk_cell bk 1).trans rfl
          have g2 : ((wr.alloc O).drew).cell? ⟨wr.heap.size, 2, none⟩ = some (.slice A12 X.f2.length c12) := (blk_cell bk 2).trans rfl
          rw [hO] at hv1 hv2 hv3 hv4 u0 u1 u2 y0 y1 y2 g0 g1 g2 HB1 HB3
          have HG := Aside0.mk (And.intro g0 (And.intro g1 (And.intro g2 (And.intro u0 (And.intro u1 u2)))))
          clear bk g0 g1 g2
          have HSE := Lib.hid (sameB_eq X Y)
          clear hst hsz q1 q2 q3 q4 p1 p2 p3 p4 hx0 hx1 hx2 hy0 hy1 hy2 hi hX hY hiL hO
          cases e0 : (X.f0.toList == Y.f0.toList) with
          | false =>
            have e0' : (X.f0.toList != Y.f0.toList) = true := by rw [bne, e0]; rfl
            have HE := Lib.hid e0
            go_wp2
            go_quiet (fail)
            all_goals go_wp2
            all_goals go_ret
            all_goals exact ⟨by rw [HST.out, HSE.out, HE.out]; rfl, pw_below_drewN HB3.out _⟩
          | true =>
            have e0' : (X.f0.toList != Y.f0.toList) = false := by rw [bne, e0]; rfl
            have HE := Lib.hid e0
            cases e1 : ((strOfNums X.f1).toList == (strOfNums Y.f1).toList) with
            | false =>
              have e1' : ((strOfNums X.f1).toList != (strOfNums Y.f1).toList) = true := by rw [bne, e1]; rfl
              have HE1 := Lib.hid e1
              go_wp2
              go_quiet (fail)
              all_goals go_wp2
              all_goals go_ret
              all_goals exact ⟨by rw [HST.out, HSE.out, HE.out, HE1.out]; rfl, pw_below_drewN HB3.out _⟩
            | true =>
              have e1' : ((strOfNums X.f1).toList != (strOfNums Y.f1).toList) = false := by rw [bne, e1]; rfl
              have HE1 := Lib.hid e1
              cases hs : sameL X.f2 Y.f2 with
              | false =>
                have HSB := Lib.hid hs
                go_wp2
                go_region_held3 (fun W => W.cell? ⟨wr.heap.size, 0, none⟩ = some (.string X.f0) ∧ W.cell? ⟨wr.heap.size, 1, none⟩ = some (.slice A11 X.f1.length c11) ∧ W.cell? ⟨wr.heap.size, 2, none⟩ = some (.slice A12 X.f2.length c12) ∧ W.cell? (ad'.add (i * 3)) = some (.string Y.f0) ∧ W.cell? ⟨(ad'.add (i * 3)).block, (ad'.add (i * 3)).off + 1, none⟩ = some (.slice B11 Y.f1.length d11) ∧ W.cell? ⟨(ad'.add (i * 3)).block, (ad'.add (i * 3)).off + 2, none⟩ = some (.slice B12 Y.f2.length d12) ∧ (convert 26 9 (.slice A11 X.f1.length c11)).run Try.prog W = .ok (.string (strOfNums X.f1)) W ∧ (convert 26 9 (.slice B11 Y.f1.length d11)).run Try.prog W = .ok (.string (strOfNums Y.f1)) W) (first | exact ⟨pw_cell_below hb HG.out.1, pw_cell_below hb HG.out.2.1, pw_cell_below hb HG.out.2.2.1, pw_cell_below hb HG.out.2.2.2.1, pw_cell_below hb HG.out.2.2.2.2.1, pw_cell_below hb HG.out.2.2.2.2.2, Kd.C_string Try.underlying26 Try.underlying5 Try.underlying9 (Kd.C_below HQ.out.1.2 (below_then HB1.out HB1.out.size hb)), Kd.C_string Try.underlying26 Try.underlying5 Try.underlying9 (Kd.C_below HP.out.1.2 (below_then HB1.out HB1.out.size hb))⟩ | go_keep | assumption)
                  ((go_at_call 25; (with_reducible refine (IH.out A12 c12 X.f2 B12 d12 Y.f2 _ HSZ.out (Kd.C_below HQ.out.2.2 HB1.out) HQ.out.2.1 (Kd.C_below HP.out.2.2 HB1.out) HP.out.2.1).mono ?_); rintro e w' ⟨rfl, hb⟩))
                all_goals go_wp2
                all_goals go_ret
                all_goals exact ⟨by rw [HST.out, HSE.out, HE.out, HE1.out, HSB.out]; rfl, below_then HB1.out HB1.out.size (by assumption)⟩
              | true =>
                have HSB := Lib.hid hs
                go_wp2
                go_region_held3 (fun W => W.cell? ⟨wr.heap.size, 0, none⟩ = some (.string X.f0) ∧ W.cell? ⟨wr.heap.size, 1, none⟩ = some (.slice A11 X.f1.length c11) ∧ W.cell? ⟨wr.heap.size, 2, none⟩ = some (.slice A12 X.f2.length c12) ∧ W.cell? (ad'.add (i * 3)) = some (.string Y.f0) ∧ W.cell? ⟨(ad'.add (i * 3)).block, (ad'.add (i * 3)).off + 1, none⟩ = some (.slice B11 Y.f1.length d11) ∧ W.cell? ⟨(ad'.add (i * 3)).block, (ad'.add (i * 3)).off + 2, none⟩ = some (.slice B12 Y.f2.length d12) ∧ (convert 26 9 (.slice A11 X.f1.length c11)).run Try.prog W = .ok (.string (strOfNums X.f1)) W ∧ (convert 26 9 (.slice B11 Y.f1.length d11)).run Try.prog W = .ok (.string (strOfNums Y.f1)) W) (first | exact ⟨pw_cell_below hb HG.out.1, pw_cell_below hb HG.out.2.1, pw_cell_below hb HG.out.2.2.1, pw_cell_below hb HG.out.2.2.2.1, pw_cell_below hb HG.out.2.2.2.2.1, pw_cell_below hb HG.out.2.2.2.2.2, Kd.C_string Try.underlying26 Try.underlying5 Try.underlying9 (Kd.C_below HQ.out.1.2 (below_then HB1.out HB1.out.size hb)), Kd.C_string Try.underlying26 Try.underlying5 Try.underlying9 (Kd.C_below HP.out.1.2 (below_then HB1.out HB1.out.size hb))⟩ | go_keep | assumption)
                  ((go_at_call 25; (with_reducible refine (IH.out A12 c12 X.f2 B12 d12 Y.f2 _ HSZ.out (Kd.C_below HQ.out.2.2 HB1.out) HQ.out.2.1 (Kd.C_below HP.out.2.2 HB1.out) HP.out.2.1).mono ?_); rintro e w' ⟨rfl, hb⟩))
                all_goals go_wp2
                all_goals
                  go_roundg (gk - 1)
                  case measure => have := HI.out; omega
                  case rel => exact ⟨i + 1, by first | rfl | simp, ⟨by have := HLT.out; omega, by have := HI.out; have := HLT.out; omega, by rw [HST.out, HSE.out, HE.out, HE1.out, HSB.out]; rfl⟩, ⟨below_then HB1.out HB1.out.size (by assumption)⟩⟩
        · have hge : ¬ (i : Int) < (L : Int) := by omega
          have hfin : sameL l0 l1 = true := by
            rw [← HI.out.2.2, List.drop_eq_nil_of_le (by have := HL.out; omega), List.drop_eq_nil_of_le (by have := HL'.out; omega), sameL]
          have HF := Lib.hid hfin
          clear hfin hi
          go_wp2
          go_ret
          exact ⟨by rw [HF.out]; rfl, HB.out⟩
def box_Same.f (l0 l1 : List S37) : Option Bool := some (sameL l0 l1)
theorem box_Same.calls (A0 : Option Addr) (c0 : Nat) (l0 : List S37) (A1 : Option Addr) (c1 : Nat) (l1 : List S37) (r : Bool) (w : World) (hr0 : Kd.C k37 w A0 l0.length l0) (hc0 : l0.length ≤ c0) (hr1 : Kd.C k37 w A1 l1.length l1) (hc1 : l1.length ≤ c1) (h : box_Same.f l0 l1 = some r) :
    Calls Try.prog 25 #[.slice A0 l0.length c0, .slice A1 l1.length c1] w fun e w' => e = .returned (.bool r) ∧ Below w.heap.size w w' := by
  obtain rfl := Option.some.inj h
  exact bsame_walk (SizeOf.sizeOf l0 + 1) A0 c0 l0 A1 c1 l1 w (by omega) hr0 hc0 hr1 hc1
theorem waveletref45_Same.calls (A0 : Option Addr) (c0 : Nat) (l0 : List S37) (A1 : Option Addr) (c1 : Nat) (l1 : List S37) (r : Bool) (w : World) (hr0 : Kd.C k37 w A0 l0.length l0) (hc0 : l0.length ≤ c0) (hr1 : Kd.C k37 w A1 l1.length l1) (hc1 : l1.length ≤ c1) (h : waveletref45_Same.f l0 l1 = some r) :
    Calls Try.prog 21 #[.slice A0 l0.length c0, .slice A1 l1.length c1] w fun e w' => e = .returned (.bool r) ∧ Below w.heap.size w w' := by
  obtain rfl := Option.some.inj h
  exact same_walk (SizeOf.sizeOf l0 + 1) A0 c0 l0 A1 c1 l1 w (by omega) hr0 hc0 hr1 hc1
theorem waveletref45_SameBox.calls (a0_0 : ByteArray) (A0_1 : Option Addr) (c0_1 : Nat) (l0_1 : List Int) (A0_2 : Option Addr) (c0_2 : Nat) (l0_2 : List S37) (a1_0 : ByteArray) (A1_1 : Option Addr) (c1_1 : Nat) (l1_1 : List Int) (A1_2 : Option Addr) (c1_2 : Nat) (l1_2 : List S37) (r : Bool) (w : World)
    (hr0_1 : Kd.C (Kd.int .u8) w A0_1 l0_1.length l0_1) (hc0_1 : l0_1.length ≤ c0_1) (hr0_2 : Kd.C k37 w A0_2 l0_2.length l0_2) (hc0_2 : l0_2.length ≤ c0_2) (hr1_1 : Kd.C (Kd.int .u8) w A1_1 l1_1.length l1_1) (hc1_1 : l1_1.length ≤ c1_1) (hr1_2 : Kd.C k37 w A1_2 l1_2.length l1_2) (hc1_2 : l1_2.length ≤ c1_2) (h : waveletref45_SameBox.f a0_0 l0_1 l0_2 a1_0 l1_1 l1_2 = some r) :
    Calls Try.prog 24 #[.agg #[.string a0_0, .slice A0_1 l0_1.length c0_1, .slice A0_2 l0_2.length c0_2], .agg #[.string a1_0, .slice A1_1 l1_1.length c1_1, .slice A1_2 l1_2.length c1_2]] w fun e w' => e = .returned (.bool r) ∧ Below w.heap.size w w' := by
  obtain rfl := Option.some.inj h
  exact sameBox_walk (SizeOf.sizeOf l0_2 + 1) (same_walk _) ⟨a0_0, l0_1, l0_2⟩ ⟨a1_0, l1_1, l1_2⟩ A0_1 c0_1 A0_2 c0_2 A1_1 c1_1 A1_2 c1_2 w (by show SizeOf.sizeOf l0_2 < _; omega) hr0_1 hc0_1 hr0_2 hc0_2 hr1_1 hc1_1 hr1_2 hc1_2
end Go.Proofs.Ytfemdpjgglhpnaa.P
