/- What box.appendBoxes answers: the bytes of a list of valid boxes, behind those that are there. -/
import Derived.Test.YtfemdpjgglhpnaaPuB
import Derived.Test.YtfemdpjgglhpnaaPx2
import Derived.Laws.RangeString
import Derived.Laws.RangeAny
import Derived.LoopTactic
import Derived.WalkSpells
import Derived.Outline
import Derived.Lib.Hide
import Derived.Deep.RegionHeld3
import Derived.Deep.DrawnRows
set_option linter.unusedVariables false
set_option linter.unusedSimpArgs false
namespace Go.Proofs.Ytfemdpjgglhpnaa.P
open Go.RowKit Go.Proofs.YtfemdpjgglhpnaaW.PrintWords Go.Proofs.YtfemdpjgglhpnaaW.PrintLast Go.Proofs.YtfemdpjgglhpnaaW.PrintMore

/-- The world with the iterator in block g at place p. -/
def iterTo (w : World) (g : Nat) (s : ByteArray) (p : Nat) : World := { w with heap := w.heap.setIfInBounds g (.stringIter s p) }
theorem next_here {P : Program} (w : World) (g : Nat) (s : ByteArray) (pos : Nat) (ty : TypeId) (hb : w.heap[g]? = some (.stringIter s pos)) (h : pos < s.size) (ha : (s[pos]'h).toNat < 128) :
    (Instr.next (.pointer (some ⟨g, 0, none⟩)) true ty).run P w = .ok (.tuple #[.bool true, .int .i64 pos, .int .i32 (s[pos]'h).toNat]) (iterTo w g s (pos + 1)) := by
  simp only [Instr.next, getObj, setObj, Sem.run_bind, Sem.run, hb, Result.andThen, h, if_true, decode_ascii s pos h ha]
  simp [goInt, Sem.run, hb, iterTo]
theorem next_over {P : Program} (w : World) (g : Nat) (s : ByteArray) (pos : Nat) (ty : TypeId) (hb : w.heap[g]? = some (.stringIter s pos)) (h : ¬ pos < s.size) :
    (Instr.next (.pointer (some ⟨g, 0, none⟩)) true ty).run P w = .ok (.tuple #[.bool false]) w := by
  simp [Instr.next, getObj, Sem.run, hb, h]
theorem iterTo_size (w : World) (g : Nat) (s : ByteArray) (p : Nat) : (iterTo w g s p).heap.size = w.heap.size := by simp [iterTo]
theorem iterTo_far (w : World) (g : Nat) (s : ByteArray) (p : Nat) {k : Nat} (h : k ≠ g) : (iterTo w g s p).heap[k]? = w.heap[k]? := by
  simp [iterTo, Array.getElem?_setIfInBounds_ne (Ne.symm h)]
theorem iterTo_here (w : World) (g : Nat) (s : ByteArray) (p : Nat) (h : g < w.heap.size) : (iterTo w g s p).heap[g]? = some (.stringIter s p) := by
  simp [iterTo, h]
theorem iterTo_below {B : Nat} {a w : World} (h : Below B a w) {g : Nat} (hg : B ≤ g) (s : ByteArray) (p : Nat) : Below B a (iterTo w g s p) :=
  h.trans ⟨rfl, rfl, rfl, by rw [iterTo_size]; exact Nat.le_refl _, fun k hk => iterTo_far w g s p (by omega)⟩

/-- Four bytes in a block of their own. -/
theorem lit4_C (w : World) (a b c d : Int) : (Kd.int .u8).C (w.alloc (.cells #[.int .u8 a, .int .u8 b, .int .u8 c, .int .u8 d] 5)) (some ⟨w.heap.size, 0, none⟩) 4 [a, b, c, d] := by
  obtain ⟨A, n, hA, hr⟩ := own_reads (own_lit w 0 5 .u8 [a, b, c, d] (Nat.zero_le _) (by simp))
  injection hA with h1 h2 h3
  subst h1
  exact Kd.C_of_reads (enc := Value.int .u8) (d := (0 : Int)) (h1 := fun _ => rfl) hr
abbrev ApbBelow (n : Nat) : Prop := ∀ (w0 : World) (A1 : Option Addr) (c1 : Nat) (l1 : List S37) (v : Value) (bs : List Int) (inner : Bool) (w : World), SizeOf.sizeOf l1 < n → Below w0.heap.size w0 w → Kd.R (Kd.int .u8) 5 w w0.heap.size (fun _ => True) v bs →
  Kd.C k37 w0 A1 l1.length l1 → l1.length ≤ c1 → okL inner l1 = true → szL l1 ≤ 67108864 → bs.length + szL l1 < 1000000000 →
  Calls Try.prog 29 #[v, .slice A1 l1.length c1] w fun e w' => ∃ v' : Value, e = .returned v' ∧ Kd.R (Kd.int .u8) 5 w' w0.heap.size (fun _ => True) v' (bs ++ wrL l1) ∧ Below w0.heap.size w0 w'

set_option maxHeartbeats 4000000 in
set_option maxRecDepth 100000 in
theorem apb_walk : ∀ n, ApbBelow n
  | 0 => fun _ _ _ _ _ _ _ _ h => absurd h (by omega)
  | n + 1 => by
    have IH := Aside0.mk (apb_walk n)
    intro w0 A1 c1 l1 v bs inner w hn hB hR hr1 hc1 hok hsz hbs
    have hm1 := hr1.2.1
    have hL8 := length_le_sz l1
    obtain ⟨L, hL⟩ : ∃ L, L = l1.length := ⟨_, rfl⟩
    have HR1 := Aside0.mk hr1
    have HN := Aside0.mk hn
    have HO0 := Aside0.mk hR
    have HB0 := Aside0.mk hB
    have HOK := Aside0.mk hok
    have HSZ := Aside0.mk (And.intro hsz hbs)
    rw [← hL] at hm1 hL8 ⊢
    have hLb : L ≤ 67108864 := by omega
    have HL := Lib.hid hL
    clear hn hB hR hr1 hok hsz hbs hL hL8
    go_enter Try.func29, Try.ntmps29
    go_wp2
    go_loopg [0, 12] (L + 1) (fun kq v0 v12 w' => ∃ i : Nat, v12 = .int .i64 i ∧ Aside0 (i ≤ L ∧ kq + i = L + 1) ∧ Aside0 (Kd.R (Kd.int .u8) 5 w' w0.heap.size (fun _ => True) v0 (bs ++ wrL (l1.take i))) ∧ Aside0 (Below w0.heap.size w0 w'))
    case atStart => exact ⟨0, by first | rfl | simp, ⟨by omega, by omega⟩, ⟨by simpa [wrL] using HO0.out⟩, HB0⟩
    case round =>
      obtain ⟨i, rfl, HI, HO, HB⟩ := hrel
      obtain ⟨wo, rfl⟩ : ∃ wo : World, wo = wr := ⟨_, rfl⟩
      obtain ⟨gq, rfl⟩ : ∃ gq : Nat, gq = gk := ⟨_, rfl⟩
      have hi0 : (0 : Int) ≤ (i : Int) := by omega
      have hiL := HI.out.1
      clear HO0 HB0
      by_cases hi : i < L
      · have hlt : (i : Int) < (L : Int) := by omega
        have hi1 : (i : Int) ≤ 9223372036854775806 := by omega
        obtain ⟨ad, A11, c11, A12, c12, ea, hx0, hx1, hx2, q1, q2, q3, q4⟩ := at_T37 HR1.out (i : Int) (by omega) (by have := HL.out; omega)
        cases ea
        rw [Int.toNat_natCast] at hx0 hx1 hx2
        have HLT := Aside0.mk hi
        have hil : i < l1.length := by have := HL.out; omega
        have hokx := okL_get HOK.out _ (rd_mem hil)
        have hszx := szL_split l1 i
        have hszy := szL_at l1 i hil
        have hszz := szB_eq (rd_T37 l1 (i : Int))
        have hlen := wrL_length (i := inner) (l := l1.take i) (by
          have := HOK.out
          rw [← List.take_append_drop i l1] at this
          exact okL_left this)
        have htk := wrL_take l1 i hil
        have hsm := rd_size hil
        generalize hX : rd_T37 l1 (i : Int) = X at *
        have HQ := Aside0.mk (And.intro (And.intro q1 q2) (And.intro q3 q4))
        have HQP : Aside0 (∀ P, P = X.f1.length → P ≤ c11 ∧ (Kd.int .u8).C w0 A11 P X.f1) := ⟨fun P hP => by rw [hP]; exact ⟨q1, q2⟩⟩
        have z0 := pw_cell_below HB.out hx0
        have z1 := pw_cell_below HB.out hx1
        have z2 := pw_cell_below HB.out hx2
        obtain ⟨ks, hks⟩ := (size_small X.f2 (by have := HSZ.out; omega)).rounds
        have HKS := Aside0.mk hks
        obtain ⟨P, hP⟩ : ∃ P, P = X.f1.length := ⟨_, rfl⟩
        obtain ⟨q, hq⟩ : ∃ q, q = szL X.f2 := ⟨_, rfl⟩
        have hPq : 8 + P + q ≤ 67108864 := by have := HSZ.out; omega
        have hacc : (bs ++ wrL (l1.take i)).length + (8 + P + q) < 1000000000 := by rw [List.length_append, hlen]; have := HSZ.out; omega
        obtain ⟨acc, hac⟩ : ∃ acc, acc = bs ++ wrL (l1.take i) := ⟨_, rfl⟩
        have htk2 : bs ++ wrL (l1.take (i + 1)) = acc ++ be4 ((8 + P + q : Nat) : Int) ++ bytesOf X.f0 ++ X.f1 ++ wrL X.f2 := by
          rw [htk, wrB_eq, ← hP, ← hq, hac]
          simp only [List.append_assoc]
        rw [← hac] at hacc HO
        obtain ⟨A0, k0, e0⟩ := Kd.R_slice HO.out
        subst e0
        have HT := Lib.hid htk2
        have HA := Aside0.mk hacc
        have HPQ := Aside0.mk hPq
        have HSM := Aside0.mk hsm
        have HKX := Aside0.mk hokx
        have hP2 : (P : Int) ≤ 67108864 := by omega
        have hq2 : (q : Int) ≤ 67108864 := by omega
        rw [← hP] at z1
        rw [← hq] at HKS
        have HPL := Lib.hid hP
        have HCP := Aside0.mk (HQP.out P hP)
        clear HQP
        have HSQ := Lib.hid hq
        obtain ⟨O, hO⟩ : ∃ O : Obj, O = .cells #[.string X.f0, .slice A11 P c11, .slice A12 X.f2.length c12] 37 := ⟨_, rfl⟩
        have HB1 := Aside0.mk (below_drew (below_alloc HB.out O))
        have bk : ((wo.alloc O).drew).heap[wo.heap.size]? = some (.cells #[.string X.f0, .slice A11 P c11, .slice A12 X.f2.length c12] 37) := by rw [← hO]; exact heap_alloc_new wo O
        have hlt1 : wo.heap.size < (wo.alloc O).drew.heap.size := blk_lt bk
        have HO1 := Aside0.mk (Kd.R_drew (Kd.R_alloc (Kd.R_elderB HO.out wo.heap.size (Nat.le_refl _)) O))
        have BK := Aside0.mk bk
        have GE := Aside0.mk HB.out.size
        rw [hO] at HB1 BK HO1
        have w1 : IntKind.i64.wrap (8 + (P : Int)) = 8 + P := by rw [IntKind.wrap_i64]; omega
        have w2 : IntKind.i64.wrap (8 + (P : Int) + (q : Int)) = 8 + P + q := by rw [IntKind.wrap_i64]; omega
        clear hi q1 q2 q3 q4 hx0 hx1 hx2 hil hokx hszx hszy hszz hlen htk hsm hX hks hP hq hPq hacc hac htk2 hO bk hlt1 hiL
        go_wp2
        go_region_held3 (fun W => W.cell? ⟨wo.heap.size, 0, none⟩ = some (.string X.f0) ∧ W.cell? ⟨wo.heap.size, 1, none⟩ = some (.slice A11 P c11) ∧ W.cell? ⟨wo.heap.size, 2, none⟩ = some (.slice A12 X.f2.length c12)) (first | exact ⟨pw_cell_below hb ((blk_cell BK.out 0).trans rfl), pw_cell_below hb ((blk_cell BK.out 1).trans rfl), pw_cell_below hb ((blk_cell BK.out 2).trans rfl)⟩ | go_keep | assumption)
          ((go_at_call 28; (with_reducible refine (box_size.calls ks A12 c12 X.f2 q _ (Kd.C_below HQ.out.2.2 HB1.out) HQ.out.2.1 HKS.out).mono ?_); rintro e w4 ⟨rfl, hb⟩))
        clear w1 w2
        have hb : Below ((wo.alloc (.cells #[.string X.f0, .slice A11 P c11, .slice A12 X.f2.length c12] 37)).drew).heap.size ((wo.alloc (.cells #[.string X.f0, .slice A11 P c11, .slice A12 X.f2.length c12] 37)).drew) w4 := by assumption
        have HB4 := Aside0.mk (below_then HB1.out HB1.out.size hb)
        have HO4 := Aside0.mk (Kd.R_below HO1.out hb)
        have BK4 := Aside0.mk (blk_below BK.out hb)
        clear hb HB1 HO1 BK
        have LT4 := Aside0.mk (blk_lt BK4.out)
        go_wp2_with (((with_reducible refine gate_builtin (b := .append) (xs := #[.tmp 24, .tmp 36]) rfl ?_); at_builtin; go_must (refine Kd.R_append_rows (Kd.int .u8) (w0 := w0) w0.heap.size rfl (.tmp 24) (.tmp 36) 26 5 (.int .u8 0) 1 rfl Try.underlying26 info5 rfl (by decide) (by omega) (.slice A0 acc.length k0) acc _ _ _ _ (fun k => True ∧ k ≠ wo.heap.size) (fun _ => False) (by rfl) (by rfl) (Kd.R_alloc HO4.out _) (lit4_C w4 _ _ _ _) (fun _ _ h => h) (fun _ h => h.elim) ?aF (Below.alloc HB4.out HB4.out.size _) ?aS ?aL ?_); (case aF => exact fun k hk => ⟨trivial, by have := LT4.out; simp at hk; omega⟩); (case aS => have := HB4.out.size; simp; omega); (case aL => have := HA.out; omega); intro v5 w5 ho hb hg hat; have HO5 := Aside0.mk ho; have HB5 := Aside0.mk hb; have BK5 := Aside0.mk (blk_grown (blk_alloc BK4.out _) hg (fun he => by have h2 := HO4.out.1 _ he.symm; exact h2.2 rfl)); have c50 : w5.cell? ⟨wo.heap.size, 0, none⟩ = some (.string X.f0) := (blk_cell BK5.out 0).trans rfl; have c51 : w5.cell? ⟨wo.heap.size, 1, none⟩ = some (.slice A11 P c11) := (blk_cell BK5.out 1).trans rfl; have c52 : w5.cell? ⟨wo.heap.size, 2, none⟩ = some (.slice A12 X.f2.length c12) := (blk_cell BK5.out 2).trans rfl; clear ho hb hg hat; obtain ⟨A5, k5, e5⟩ := Kd.R_slice HO5.out; subst e5))
        -- the four bytes are there
        obtain ⟨acc5, h5⟩ : ∃ a5, a5 = acc ++ [(8 + (P : Int) + (q : Int)) / 16777216, (8 + (P : Int) + (q : Int)) / 65536 % 256, (8 + (P : Int) + (q : Int)) / 256 % 256, (8 + (P : Int) + (q : Int)) % 256] := ⟨_, rfl⟩
        have hl5 : acc.length + 4 = acc5.length := by rw [h5, List.length_append]; rfl
        rw [hl5]
        have HO6 : Aside0 (Kd.R (Kd.int .u8) 5 w5 w0.heap.size (fun k => True ∧ k ≠ wo.heap.size) (.slice A5 acc5.length k5) acc5) := ⟨by rw [h5]; exact HO5.out⟩
        have ht5 : bs ++ wrL (l1.take (i + 1)) = acc5 ++ bytesOf X.f0 ++ X.f1 ++ wrL X.f2 := by
          rw [HT.out, h5]
          have : be4 ((8 + P + q : Nat) : Int) = [(8 + (P : Int) + (q : Int)) / 16777216, (8 + (P : Int) + (q : Int)) / 65536 % 256, (8 + (P : Int) + (q : Int)) / 256 % 256, (8 + (P : Int) + (q : Int)) % 256] := by
            unfold be4
            rw [show ((8 + P + q : Nat) : Int) = 8 + (P : Int) + (q : Int) by omega]
            rw [show (8 + (P : Int) + (q : Int)) / 16777216 % 256 = (8 + (P : Int) + (q : Int)) / 16777216 by omega]
          rw [this]
        have hla : acc5.length + (4 + P + q) < 1000000000 := by have := HA.out; omega
        have HT5 := Lib.hid ht5
        have HA5 := Aside0.mk hla
        have hgg : wo.heap.size < w5.heap.size := blk_lt BK5.out
        have HG := Aside0.mk hgg
        have HO7 := Aside0.mk (Kd.R_alloc (Kd.R_elderB HO6.out w5.heap.size (Nat.le_refl _)) (.stringIter X.f0 0))
        have BK7 := Aside0.mk (blk_alloc BK5.out (.stringIter X.f0 0))
        have IT7 : Aside0 ((w5.alloc (.stringIter X.f0 0)).heap[w5.heap.size]? = some (.stringIter X.f0 0)) := ⟨heap_alloc_new w5 _⟩
        have HB7 := Aside0.mk (Below.alloc HB5.out HB5.out.size (.stringIter X.f0 0))
        have HGE := Aside0.mk HB5.out.size
        have hascii := knownP_ascii (okB_known HKX.out)
        have HAS := Aside0.mk hascii.2
        have hN4 : X.f0.size ≤ 4 := by omega
        clear h5 hl5 HO5 HO6 ht5 hla HT HA HO HB4 HO4 BK4 LT4 BK5 HB5 hgg hascii c50 c51 c52
        generalize hg5 : w5.heap.size = g5 at *
        show Code.wp _ _ _ _ (w5.alloc (.stringIter X.f0 0))
        generalize w5.alloc (.stringIter X.f0 0) = w7 at *
        go_loopg [0] (X.f0.size + 1) (fun kq v0 w' => ∃ pos : Nat, Aside0 (pos ≤ X.f0.size ∧ kq + pos = X.f0.size + 1) ∧ Aside0 (Kd.R (Kd.int .u8) 5 w' w0.heap.size (fun k => (True ∧ k ≠ wo.heap.size) ∧ k ≠ g5) v0 (acc5 ++ (bytesOf X.f0).take pos)) ∧ Aside0 (w'.heap[wo.heap.size]? = some (.cells #[.string X.f0, .slice A11 P c11, .slice A12 X.f2.length c12] 37)) ∧ Aside0 (w'.heap[g5]? = some (.stringIter X.f0 pos)) ∧ Aside0 (Below w0.heap.size w0 w'))
        case atStart => exact ⟨0, ⟨by omega, by omega⟩, ⟨by simpa using HO7.out⟩, BK7, IT7, HB7⟩
        case round =>
          clear HO7 BK7 IT7 HB7
          obtain ⟨pos, HP, HO7, BK7, IT7, HB7⟩ := hrel
          by_cases hp : pos < X.f0.size
          · have ha := HAS.out pos hp
            have hnx : ∀ ty, (Instr.next (.pointer (some ⟨g5, 0, none⟩)) true ty).run Try.prog wr = _ := fun ty => next_here (P := Try.prog) wr g5 X.f0 pos ty IT7.out hp ha
            have htk : (bytesOf X.f0).take (pos + 1) = (bytesOf X.f0).take pos ++ [((X.f0[pos]'hp).toNat : Int)] := by
              have hl : pos < (bytesOf X.f0).length := by rw [bytesOf_length]; exact hp
              rw [List.take_succ_eq_append_getElem hl]
              congr 2
              simp only [bytesOf, List.getElem_map]
              rfl
            have HTK := Lib.hid htk
            have hc2 : ((X.f0[pos]'hp).toNat : Int) < 128 := by omega
            have hc0 : (0 : Int) ≤ ((X.f0[pos]'hp).toNat : Int) := by omega
            have HO8 := Aside0.mk (Kd.R_step (w1 := iterTo wr g5 X.f0 (pos + 1)) HO7.out (fun k hk _ => iterTo_far _ _ _ _ hk.2))
            have hgw : g5 < wr.heap.size := blk_lt IT7.out
            have hgw2 : wo.heap.size < wr.heap.size := blk_lt BK7.out
            have IT8 := Aside0.mk (iterTo_here wr g5 X.f0 (pos + 1) hgw)
            have BK8 : Aside0 ((iterTo wr g5 X.f0 (pos + 1)).heap[wo.heap.size]? = some (.cells #[.string X.f0, .slice A11 P c11, .slice A12 X.f2.length c12] 37)) := ⟨(iterTo_far _ _ _ _ (by have := HG.out; omega)).trans BK7.out⟩
            have HB8 := Aside0.mk (iterTo_below HB7.out (g := g5) (by have := HGE.out; omega) X.f0 (pos + 1))
            have HS8 : Aside0 (wo.heap.size < (iterTo wr g5 X.f0 (pos + 1)).heap.size ∧ g5 < (iterTo wr g5 X.f0 (pos + 1)).heap.size) := ⟨by rw [iterTo_size]; omega⟩
            have HPP := Aside0.mk hp
            generalize ((X.f0[pos]'hp).toNat) = ch at *
            generalize iterTo wr g5 X.f0 (pos + 1) = w8 at *
            clear HO7 BK7 IT7 HB7 htk ha hgw hgw2 hp
            obtain ⟨A8, k8, e8⟩ := Kd.R_slice HO8.out
            subst e8
            go_wp2_with (((with_reducible refine gate_builtin (b := .append) (xs := #[.tmp 44, .tmp 47]) rfl ?_); at_builtin; go_must (refine Kd.R_append (Kd.int .u8) (w0 := w0) w0.heap.size rfl (.tmp 44) (.tmp 47) 26 5 (.int .u8 0) 1 rfl Try.underlying26 info5 rfl (by decide) (by omega) (.slice A8 (acc5 ++ (bytesOf X.f0).take pos).length k8) (acc5 ++ (bytesOf X.f0).take pos) (ch : Int) [.int .u8 (ch : Int)] (fun k => (True ∧ k ≠ wo.heap.size) ∧ k ≠ g5) (fun _ => False) ?x1 ?x2 rfl (fun _ hk => hk.elim) ?aF HO8.out HB8.out HB8.out.size ?aL ?_); (case x1 => first | rfl | simp); (case x2 => first | rfl | simp); (case aF => exact fun k hk => ⟨⟨trivial, by have := HS8.out.1; omega⟩, by have := HS8.out.2; omega⟩); (case aL => have := HA5.out; have h5_ := HP.out.1; rw [List.length_append]; have h6_ := List.length_take_le pos (bytesOf X.f0); omega); intro v9 w9 ho hb hg hat; have HO9 := Aside0.mk ho; have HB9 := Aside0.mk hb; have BK9 := Aside0.mk (blk_grown BK8.out hg (fun he => (HO8.out.1 _ he.symm).1.2 rfl)); have IT9 := Aside0.mk (blk_grown IT8.out hg (fun he => (HO8.out.1 _ he.symm).2 rfl)); clear ho hb hg hat))
            go_roundg (gk - 1)
            case measure => have := HP.out; have := HPP.out; omega
            case rel => exact ⟨pos + 1, ⟨by have := HPP.out; omega, by have := HP.out; have := HPP.out; omega⟩, ⟨by rw [HTK.out, ← List.append_assoc]; exact HO9.out⟩, BK9, IT9, HB9⟩
          · have hnx : ∀ ty, (Instr.next (.pointer (some ⟨g5, 0, none⟩)) true ty).run Try.prog wr = _ := fun ty => next_over (P := Try.prog) wr g5 X.f0 pos ty IT7.out hp
            have hpe : (bytesOf X.f0).take pos = bytesOf X.f0 := List.take_of_length_le (by rw [bytesOf_length]; omega)
            have HO8 : Aside0 (Kd.R (Kd.int .u8) 5 wr w0.heap.size (fun k => (True ∧ k ≠ wo.heap.size) ∧ k ≠ g5) u0 (acc5 ++ bytesOf X.f0)) := ⟨by have := HO7.out; rw [hpe] at this; exact this⟩
            have c70 : wr.cell? ⟨wo.heap.size, 0, none⟩ = some (.string X.f0) := (blk_cell BK7.out 0).trans rfl
            have c71 : wr.cell? ⟨wo.heap.size, 1, none⟩ = some (.slice A11 P c11) := (blk_cell BK7.out 1).trans rfl
            have c72 : wr.cell? ⟨wo.heap.size, 2, none⟩ = some (.slice A12 X.f2.length c12) := (blk_cell BK7.out 2).trans rfl
            obtain ⟨A8, k8, e8⟩ := Kd.R_slice HO8.out
            subst e8
            have HLT7 := Aside0.mk (blk_lt BK7.out)
            have HLT8 := Aside0.mk (blk_lt IT7.out)
            have hlb : (acc5 ++ bytesOf X.f0).length = acc5.length + X.f0.size := by rw [List.length_append, bytesOf_length]
            have HLB := Lib.hid hlb
            have HPS := Lib.hid hN4
            clear hpe hp HO7 hlb
            go_wp2_with (first | ((with_reducible refine gate_builtin (b := .append) (xs := #[.tmp 49, .tmp 51]) rfl ?_); at_builtin; go_must (refine Kd.R_append_rows (Kd.int .u8) (w0 := w0) w0.heap.size rfl (.tmp 49) (.tmp 51) 26 5 (.int .u8 0) 1 rfl Try.underlying26 info5 rfl (by decide) (by omega) (.slice A8 (acc5 ++ bytesOf X.f0).length k8) (acc5 ++ bytesOf X.f0) X.f1 A11 P c11 (fun k => (True ∧ k ≠ wo.heap.size) ∧ k ≠ g5) (fun _ => False) ?x1 ?x2 HO8.out (Kd.C_below HCP.out.2 HB7.out) (fun _ _ h => h) (fun _ h => h.elim) ?aF HB7.out HB7.out.size ?aL ?_); (case x1 => first | rfl | simp); (case x2 => first | rfl | simp); (case aF => exact fun k hk => ⟨⟨trivial, by have := HLT7.out; omega⟩, by have := HLT8.out; omega⟩); (case aL => have := HA5.out; rw [HLB.out]; have := HPS.out; omega); intro v9 w9 ho hb hg hat; have HO9 := Aside0.mk ho; have HB9 := Aside0.mk hb; have BK9 := Aside0.mk (blk_grown BK7.out hg (fun he => (HO8.out.1 _ he.symm).1.2 rfl)); have c90 : w9.cell? ⟨wo.heap.size, 0, none⟩ = some (.string X.f0) := (blk_cell BK9.out 0).trans rfl; have c91 : w9.cell? ⟨wo.heap.size, 1, none⟩ = some (.slice A11 P c11) := (blk_cell BK9.out 1).trans rfl; have c92 : w9.cell? ⟨wo.heap.size, 2, none⟩ = some (.slice A12 X.f2.length c12) := (blk_cell BK9.out 2).trans rfl; clear ho hb hg hat) | (go_at_call 29; (with_reducible refine (IH.out w0 A12 c12 X.f2 v9 (acc5 ++ bytesOf X.f0 ++ X.f1) true _ ?s1 HB9.out (Kd.R_mono HO9.out (fun _ _ => trivial)) HQ.out.2.2 HQ.out.2.1 (okB_inner HKX.out) ?s2 ?s3).mono ?_); (case s1 => have := HSM.out; have := HN.out; omega); (case s2 => have := HPQ.out; have := HSQ.out; omega); (case s3 => have := HA5.out; have := HSQ.out; have := HPL.out; have := HPS.out; rw [List.length_append, HLB.out]; omega); rintro e w10 ⟨v10, rfl, ho, hb⟩; have HO10 := Aside0.mk ho; have HB10 := Aside0.mk hb; clear ho hb))
            go_roundg (gq - 1)
            case measure => have := HI.out; have := HLT.out; omega
            case rel => exact ⟨i + 1, by first | rfl | simp, ⟨by have := HLT.out; omega, by have := HI.out; have := HLT.out; omega⟩, ⟨by rw [HT5.out]; exact HO10.out⟩, HB10⟩
      · have hge : ¬ (i : Int) < (L : Int) := by omega
        have he : l1.take i = l1 := List.take_of_length_le (by have := HL.out; omega)
        rw [he] at HO
        clear hi he
        go_wp2
        go_ret
        exact ⟨_, rfl, HO.out, HB.out⟩
def box_appendBoxes.f (l0 : List Int) (l1 : List S37) : Option (List Int) := if l0 = [] ∧ okL false l1 = true ∧ szL l1 ≤ 67108864 then some (wrL l1) else none
/-- Nothing lies behind the address. -/
def NoRow (w : World) : Option Addr → Prop
  | none => (Kd.int .u8).C w none ([] : List Int).length []
  | some _ => False
theorem box_appendBoxes.calls (A0 : Option Addr) (c0 : Nat) (l0 : List Int) (A1 : Option Addr) (c1 : Nat) (l1 : List S37) (r : List Int) (w : World) (hr0 : NoRow w A0) (hc0 : c0 ≤ l0.length) (hr1 : Kd.C k37 w A1 l1.length l1) (hc1 : l1.length ≤ c1) (h : box_appendBoxes.f l0 l1 = some r) :
    Calls Try.prog 29 #[.slice A0 l0.length c0, .slice A1 l1.length c1] w fun e w' => ∃ v0_ : Value, e = .returned (v0_) ∧ Kd.R (Kd.int .u8) 5 w' w.heap.size (fun _ => True) v0_ r ∧ Below w.heap.size w w' := by
  unfold box_appendBoxes.f at h
  by_cases hc : l0 = [] ∧ okL false l1 = true ∧ szL l1 ≤ 67108864
  · rw [if_pos hc] at h
    obtain rfl := Option.some.inj h
    obtain ⟨rfl, h2, h3⟩ := hc
    cases A0 with
    | some a => exact hr0.elim
    | none =>
      obtain rfl : c0 = 0 := Nat.le_zero.1 hc0
      refine (apb_walk (SizeOf.sizeOf l1 + 1) w A1 c1 l1 (.slice none 0 0) [] false w (by omega) (Below.refl _ _) (Kd.R_nil _ _ _ _ _) hr1 hc1 h2 h3 (by rw [List.length_nil]; omega)).mono ?_
      rintro e w' ⟨v', rfl, ho, hb⟩
      exact ⟨v', rfl, by rw [List.nil_append] at ho; exact ho, hb⟩
  · rw [if_neg hc] at h
    cases h
end Go.Proofs.Ytfemdpjgglhpnaa.P
