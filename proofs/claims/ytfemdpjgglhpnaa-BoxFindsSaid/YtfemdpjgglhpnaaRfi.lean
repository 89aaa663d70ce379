/- What the reference's Find answers: the first box with a path of types. -/
import Derived.Test.YtfemdpjgglhpnaaPuA
import Derived.LoopTactic
import Derived.WalkSpells
import Derived.Outline
import Derived.Lib.Hide
import Derived.Deep.RegionHeld3
import Derived.Deep.DrawnRows
set_option linter.unusedVariables false
set_option linter.unusedSimpArgs false
namespace Go.Proofs.Ytfemdpjgglhpnaa.P
open Go.RowKit Go.Proofs.YtfemdpjgglhpnaaW.PrintWords Go.Proofs.YtfemdpjgglhpnaaW.PrintLast Go.Proofs.YtfemdpjgglhpnaaW.PrintMore

theorem info9b : (Try.prog.info? 9).map (fun i => (i.zero, i.size, i.bytes)) = some (some (.string ⟨#[]⟩), 1, 16) := by kernel_rfl
def FindPost (w0 w : World) (o : Option S37) (e : Ending) (w' : World) : Prop :=
  match o with
  | none => e = .returned (.tuple #[.agg #[.string ⟨#[]⟩, .slice none 0 0, .slice none 0 0], .bool false]) ∧ Below w.heap.size w w'
  | some x => ∃ (A1 : Option Addr) (c1 : Nat) (A2 : Option Addr) (c2 : Nat), e = .returned (.tuple #[.agg #[.string x.f0, .slice A1 x.f1.length c1, .slice A2 x.f2.length c2], .bool true]) ∧
      (x.f1.length ≤ c1 ∧ (Kd.int .u8).C w0 A1 x.f1.length x.f1) ∧ (x.f2.length ≤ c2 ∧ k37.C w0 A2 x.f2.length x.f2) ∧ Below w.heap.size w w'
theorem FindPost.no {w0 w w' : World} {o : Option S37} {e : Ending} (h : o = none) (he : e = .returned (.tuple #[.agg #[.string ⟨#[]⟩, .slice none 0 0, .slice none 0 0], .bool false])) (hb : Below w.heap.size w w') : FindPost w0 w o e w' := by
  subst h; exact ⟨he, hb⟩
theorem FindPost.yes {w0 w w' : World} {o : Option S37} {e : Ending} {x : S37} {A1 : Option Addr} {c1 : Nat} {A2 : Option Addr} {c2 : Nat} (h : o = some x) (he : e = .returned (.tuple #[.agg #[.string x.f0, .slice A1 x.f1.length c1, .slice A2 x.f2.length c2], .bool true]))
    (h1 : x.f1.length ≤ c1 ∧ (Kd.int .u8).C w0 A1 x.f1.length x.f1) (h2 : x.f2.length ≤ c2 ∧ k37.C w0 A2 x.f2.length x.f2) (hb : Below w.heap.size w w') : FindPost w0 w o e w' := by
  subst h; exact ⟨A1, c1, A2, c2, he, h1, h2, hb⟩
theorem FindPost.no_out {w0 w w' : World} {o : Option S37} {e : Ending} (h : o = none) (hp : FindPost w0 w o e w') : e = .returned (.tuple #[.agg #[.string ⟨#[]⟩, .slice none 0 0, .slice none 0 0], .bool false]) ∧ Below w.heap.size w w' := by
  subst h; exact hp
theorem FindPost.yes_out {w0 w w' : World} {o : Option S37} {e : Ending} {x : S37} (h : o = some x) (hp : FindPost w0 w o e w') : ∃ (A1 : Option Addr) (c1 : Nat) (A2 : Option Addr) (c2 : Nat), e = .returned (.tuple #[.agg #[.string x.f0, .slice A1 x.f1.length c1, .slice A2 x.f2.length c2], .bool true]) ∧
      (x.f1.length ≤ c1 ∧ (Kd.int .u8).C w0 A1 x.f1.length x.f1) ∧ (x.f2.length ≤ c2 ∧ k37.C w0 A2 x.f2.length x.f2) ∧ Below w.heap.size w w' := by
  subst h; exact hp
theorem cell_set3 {W : World} {p : Addr} {b : Nat} {v0 v1 v2 u : Value} (hne : p.block ≠ b) (h : W.cell? p = some u) : (((W.setCell ⟨b, 0, none⟩ v0).setCell ⟨b, 1, none⟩ v1).setCell ⟨b, 2, none⟩ v2).cell? p = some u := by
  rw [← h]
  exact World.cell?_of_block (by rw [Below.heap_setCell _ _ _ _ hne, Below.heap_setCell _ _ _ _ hne, Below.heap_setCell _ _ _ _ hne])
set_option maxHeartbeats 4000000 in
set_option maxRecDepth 100000 in
theorem rfind_walk : ∀ (l1 : List ByteArray) (w0 : World) (A0 : Option Addr) (c0 : Nat) (l0 : List S37) (A1 : Option Addr) (c1 : Nat) (w : World), Below w0.heap.size w0 w → Kd.C k37 w0 A0 l0.length l0 → l0.length ≤ c0 → Kd.C Kd.string w0 A1 l1.length l1 → l1.length ≤ c1 →
    Calls Try.prog 23 #[.slice A0 l0.length c0, .slice A1 l1.length c1] w (FindPost w0 w (findP l1 l0))
  | [], w0, A0, c0, l0, A1, c1, w, hbl, hr0, hc0, hr1, hc1 => by
    show Calls Try.prog 23 #[.slice A0 l0.length c0, .slice A1 0 c1] w _
    have HF : Hid (findP [] l0 = none) := Lib.hid (by rw [findP])
    generalize l0.length = L at *
    clear hr0 hr1
    go_enter Try.func23, Try.ntmps23
    go_wp2
    exact bodyPost_ret (v := .tuple #[.agg #[.string ⟨#[]⟩, .slice none 0 0, .slice none 0 0], .bool false]) (by simp [results, Try.results23, go_sem]) rfl (FindPost.no HF.out rfl ((Below.refl _ _).alloc (Nat.le_refl _) _))
  | t :: ps, w0, A0, c0, l0, A1, c1, w, hbl, hr0, hc0, hr1, hc1 => by
    have IH := Aside0.mk (rfind_walk ps)
    have hm0 := hr0.2.1
    have hm1 := hr1.2.1
    obtain ⟨L, hL⟩ : ∃ L, L = l0.length := ⟨_, rfl⟩
    obtain ⟨M, hM⟩ : ∃ M, M = (t :: ps).length := ⟨_, rfl⟩
    have hM1 : 1 ≤ M := by rw [hM]; simp
    obtain ⟨bd, cs, eb, _, hK, hcs⟩ := Kd.C_get hr1 t 0 (by omega) (by simp)
    have hK2 : cs = [.string t] := hK
    subst hK2
    have hp0 : w0.cell? bd = some (.string t) := by
      have := hcs 0 (.string t) rfl
      simpa [Addr.add] using this
    cases eb
    replace hp0 := pw_cell_below hbl hp0
    have HBL := Aside0.mk hbl
    have HR0 := Aside0.mk hr0
    have HR1 := Aside0.mk hr1
    have HC1 := Aside0.mk hc1
    rw [← hL, ← hM]
    rw [← hL] at hm0
    rw [← hM] at hm1 hc1
    have HL := Lib.hid hL
    have HM := Lib.hid hM
    have hz0 : ((M : Int) == 0) = false := by simp; omega
    have HB0 := Aside0.mk (below_alloc (Below.refl w.heap.size w) (.cells #[.string ⟨#[]⟩, .slice none 0 0, .slice none 0 0] 37))
    clear hr0 hr1 hL hM hcs hK hbl
    go_enter Try.func23, Try.ntmps23
    go_wp2
    go_loopg [6] (L + 1) (fun kq v6 w' => ∃ i : Nat, v6 = .int .i64 i ∧ Aside0 (i ≤ L ∧ kq + i = L + 1 ∧ firstP t (l0.drop i) = firstP t l0) ∧ Aside0 (w'.heap[w.heap.size]? = some (.cells #[.string ⟨#[]⟩, .slice none 0 0, .slice none 0 0] 37)) ∧ Aside0 (Below w.heap.size w w'))
    case atStart => exact ⟨0, by first | rfl | simp, ⟨by omega, by omega, rfl⟩, ⟨heap_alloc_new w _⟩, HB0⟩
    case round =>
      obtain ⟨i, rfl, HI, BK, HB⟩ := hrel
      have hi0 : (0 : Int) ≤ (i : Int) := by omega
      have hiL := HI.out.1
      clear HB0
      have b0 : wr.cell? ⟨w.heap.size, 0, none⟩ = some (.string ⟨#[]⟩) := (blk_cell BK.out 0).trans rfl
      have b1 : wr.cell? ⟨w.heap.size, 1, none⟩ = some (.slice none 0 0) := (blk_cell BK.out 1).trans rfl
      have b2 : wr.cell? ⟨w.heap.size, 2, none⟩ = some (.slice none 0 0) := (blk_cell BK.out 2).trans rfl
      have f0 := blk_frozen BK.out 0
      have f1 := blk_frozen BK.out 1
      have f2 := blk_frozen BK.out 2
      by_cases hi : i < L
      · have hlt : (i : Int) < (L : Int) := by omega
        have hi1 : (i : Int) ≤ 9223372036854775806 := by omega
        have hst := firstP_step t l0 i (by have := HL.out; omega)
        rw [HI.out.2.2] at hst
        have HLT := Aside0.mk hi
        obtain ⟨ad, A11, c11, A12, c12, ea, hx0, hx1, hx2, q1, q2, q3, q4⟩ := at_T37 HR0.out (i : Int) (by omega) (by have := HL.out; omega)
        cases ea
        rw [Int.toNat_natCast] at hx0 hx1 hx2
        replace hx0 := pw_cell_below HBL.out hx0
        replace hx1 := pw_cell_below HBL.out hx1
        replace hx2 := pw_cell_below HBL.out hx2
        generalize hX : rd_T37 l0 (i : Int) = X at *
        have HQ := Aside0.mk (And.intro (And.intro q1 q2) (And.intro q3 q4))
        have hne : (ad.add (i * 3)).block ≠ w.heap.size := Nat.ne_of_lt (World.block_lt_of_cell? w (ad.add (i * 3)) hx0)
        have z0 := pw_cell_below HB.out hx0
        have z1 := pw_cell_below HB.out hx1
        have z2 := pw_cell_below HB.out hx2
        have y0 := pw_cell_below HB.out hp0
        have hM0 : (0 : Int) < (M : Int) := by omega
        have HST := Lib.hid hst
        clear q1 q2 q3 q4 hx0 hx1 hx2 hX hi hst hiL
        cases e0 : (X.f0.toList == t.toList) with
        | false =>
          have HE := Lib.hid e0
          go_wp2
          go_quiet (fail)
          go_wp2
          go_roundg (gk - 1)
          case measure => have := HI.out; omega
          case rel => exact ⟨i + 1, by first | rfl | simp, ⟨by have := HLT.out; omega, by have := HI.out; have := HLT.out; omega, by rw [HST.out, HE.out]; rfl⟩, BK, ⟨pw_below_drewN HB.out _⟩⟩
        | true =>
          have hfx : firstP t l0 = some X := by rw [HST.out, e0]; rfl
          by_cases hps : ps = []
          · have hM1 : ((M : Int) == 1) = true := by have := HM.out; rw [hps] at this; simp at this; simp; omega
            have hF : findP (t :: ps) l0 = some X := by rw [findP, hfx, hps]; rfl
            have HF := Lib.hid hF
            clear hF hfx hps
            go_wp2
            go_quiet (fail)
            go_wp2
            exact bodyPost_ret (v := .tuple #[.agg #[.string X.f0, .slice A11 X.f1.length c11, .slice A12 X.f2.length c12], .bool true]) (by simp [results, Try.results23, go_sem, b0, b1, b2, f0, f1, f2]) rfl (FindPost.yes HF.out rfl HQ.out.1 HQ.out.2 (below_set (below_set (below_set (pw_below_drewN HB.out _) (Nat.le_refl _)) (Nat.le_refl _)) (Nat.le_refl _)))
          · have hM1 : ((M : Int) == 1) = false := by
              have := HM.out
              cases ps with
              | nil => exact absurd rfl hps
              | cons a b => simp at this; simp; omega
            have hF : findP (t :: ps) l0 = findP ps X.f2 := by
              rw [findP, hfx]
              cases ps with
              | nil => exact absurd rfl hps
              | cons a b => rfl
            have HF := Lib.hid hF
            obtain ⟨i0, hi0', hiz0, hsz0, hib0⟩ := info_parts info9b
            have hcut := cut_from (P := Try.prog) 35 9 .i64 Try.underlying35 hi0' 1 hsz0 (some bd) M c1 1 (by omega) (by omega)
            have hcd := Kd.C_drop (m := 1) (c := c1) HR1.out (by simp) HC1.out
            have hMp : M - (1 : Int).toNat = ps.length := by have := HM.out; rw [this]; simp
            obtain ⟨B, hB⟩ : ∃ B : Option Addr, B = if c1 = (1 : Int).toNat then some bd else (some bd : Option Addr).map (·.add ((1 : Int).toNat * 1)) := ⟨_, rfl⟩
            have hcb : Kd.C Kd.string w0 B ps.length ps := by
              rw [hB]
              exact hcd
            rw [← hB, hMp] at hcut
            have hcc : ps.length ≤ c1 - 1 := by have := HM.out; have := HC1.out; simp at *; omega
            have HCB := Aside0.mk (And.intro hcb hcc)
            have HBX : ∀ n, Aside0 (Below w0.heap.size w0 (wr.drewN n)) := fun n => ⟨pw_below_drewN (below_then HBL.out HBL.out.size HB.out) n⟩
            have HBN := Aside0.mk HBX
            have HBW : Aside0 (∀ n, Below w.heap.size w (wr.drewN n)) := ⟨fun n => pw_below_drewN HB.out n⟩
            clear hcd hMp hB hcb hcc hi0' hiz0 hsz0 hib0 hF HBX hfx hps
            go_wp2
            go_quiet (fail)
            go_wp2
            have hblt : w.heap.size < wr.heap.size := blk_lt BK.out
            cases hfo : findP ps X.f2 with
            | none =>
              have HFO := Lib.hid hfo
              clear hfo
              go_region_held3 (fun W => W.cell? ⟨(ad.add (i * 3)).block, (ad.add (i * 3)).off + 2, none⟩ = some (.slice A12 X.f2.length c12)) (first | exact pw_cell_below hb z2 | exact cell_set3 hne y2 | go_keep | assumption)
                ((go_at_call 23; (with_reducible refine (IH.out w0 A12 c12 X.f2 B (c1 - 1) _ (HBN.out _).out HQ.out.2.2 HQ.out.2.1 HCB.out.1 HCB.out.2).mono ?_); rintro e w' hpo; obtain ⟨rfl, hb⟩ := FindPost.no_out HFO.out hpo; clear hpo; have BK2 : w'.heap[w.heap.size]? = some (.cells #[.string ⟨#[]⟩, .slice none 0 0, .slice none 0 0] 37) := (hb.block w.heap.size hblt).trans BK.out; have d0 : w'.cell? ⟨w.heap.size, 0, none⟩ = some (.string ⟨#[]⟩) := (blk_cell BK2 0).trans rfl; have d1 : w'.cell? ⟨w.heap.size, 1, none⟩ = some (.slice none 0 0) := (blk_cell BK2 1).trans rfl; have d2 : w'.cell? ⟨w.heap.size, 2, none⟩ = some (.slice none 0 0) := (blk_cell BK2 2).trans rfl; have g0 := blk_frozen BK2 0; have g1 := blk_frozen BK2 1; have g2 := blk_frozen BK2 2; have HBZ := Aside0.mk hb; have y2 := pw_cell_below hb z2; clear BK2))
              all_goals go_wp2
              all_goals exact bodyPost_ret (v := .tuple #[.agg #[.string ⟨#[]⟩, .slice none 0 0, .slice none 0 0], .bool false]) (by simp [results, Try.results23, go_sem, d0, d1, d2, g0, g1, g2]) rfl (FindPost.no (by rw [HF.out, HFO.out]) rfl (below_set (below_set (below_set (below_then (HBW.out _) (HBW.out _).size HBZ.out) (Nat.le_refl _)) (Nat.le_refl _)) (Nat.le_refl _)))
            | some x =>
              have HFO := Lib.hid hfo
              clear hfo
              go_region_held3 (fun W => W.cell? ⟨(ad.add (i * 3)).block, (ad.add (i * 3)).off + 2, none⟩ = some (.slice A12 X.f2.length c12)) (first | exact pw_cell_below hb z2 | exact cell_set3 hne y2 | go_keep | assumption)
                ((go_at_call 23; (with_reducible refine (IH.out w0 A12 c12 X.f2 B (c1 - 1) _ (HBN.out _).out HQ.out.2.2 HQ.out.2.1 HCB.out.1 HCB.out.2).mono ?_); rintro e w' hpo; obtain ⟨A3, c3, A4, c4, rfl, hp1, hp2, hb⟩ := FindPost.yes_out HFO.out hpo; have HP := Aside0.mk (And.intro hp1 hp2); clear hpo hp1 hp2; have BK2 : w'.heap[w.heap.size]? = some (.cells #[.string ⟨#[]⟩, .slice none 0 0, .slice none 0 0] 37) := (hb.block w.heap.size hblt).trans BK.out; have d0 : w'.cell? ⟨w.heap.size, 0, none⟩ = some (.string ⟨#[]⟩) := (blk_cell BK2 0).trans rfl; have d1 : w'.cell? ⟨w.heap.size, 1, none⟩ = some (.slice none 0 0) := (blk_cell BK2 1).trans rfl; have d2 : w'.cell? ⟨w.heap.size, 2, none⟩ = some (.slice none 0 0) := (blk_cell BK2 2).trans rfl; have g0 := blk_frozen BK2 0; have g1 := blk_frozen BK2 1; have g2 := blk_frozen BK2 2; have HBZ := Aside0.mk hb; have y2 := pw_cell_below hb z2; clear BK2))
              all_goals go_wp2
              all_goals exact bodyPost_ret (v := .tuple #[.agg #[.string x.f0, .slice A3 x.f1.length c3, .slice A4 x.f2.length c4], .bool true]) (by simp [results, Try.results23, go_sem, d0, d1, d2, g0, g1, g2]) rfl (FindPost.yes (by rw [HF.out, HFO.out]) rfl HP.out.1 HP.out.2 (below_set (below_set (below_set (below_then (HBW.out _) (HBW.out _).size HBZ.out) (Nat.le_refl _)) (Nat.le_refl _)) (Nat.le_refl _)))
      · have hge : ¬ (i : Int) < (L : Int) := by omega
        have hfin : firstP t l0 = none := by
          rw [← HI.out.2.2, List.drop_eq_nil_of_le (by have := HL.out; omega), firstP]
        have hF : findP (t :: ps) l0 = none := by rw [findP, hfin]
        have HF := Lib.hid hF
        clear hfin hi hF
        go_wp2
        exact bodyPost_ret (v := .tuple #[.agg #[.string ⟨#[]⟩, .slice none 0 0, .slice none 0 0], .bool false]) (by simp [results, Try.results23, go_sem, b0, b1, b2, f0, f1, f2]) rfl (FindPost.no HF.out rfl (below_set (below_set (below_set HB.out (Nat.le_refl _)) (Nat.le_refl _)) (Nat.le_refl _)))
end Go.Proofs.Ytfemdpjgglhpnaa.P
