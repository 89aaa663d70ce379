/- alloc.sorted on steps, with the function that alloc.steps hands it: what it answers, in plain numbers. -/
import Derived.Test.YtgmadhlebpbcpaaPts
import Derived.Deep.RegionHeld3
import Derived.Deep.DrawnRows
set_option linter.unusedVariables false
set_option linter.unusedSimpArgs false
namespace Go.Proofs.Ytgmadhlebpbcpaa.P
open Go.RowKit Go.Proofs.YtgmadhlebpbcpaaW.PrintWords Go.Proofs.YtgmadhlebpbcpaaW.PrintLast Go.Proofs.YtgmadhlebpbcpaaW.PrintMore
attribute [local go_sem] max2_int min2_int max_two min_two

/-- Is a strictly steeper than b? -/
def lessP (a b : S54) : Bool := decide (0 < stP a.f2 a.f3 b.f2 b.f3)
def mrgP : List S54 → List S54 → List S54
  | [], ys => ys
  | x :: xs, [] => x :: xs
  | x :: xs, y :: ys => if lessP y x = true then y :: mrgP (x :: xs) ys else x :: mrgP xs (y :: ys)
  termination_by xs ys => xs.length + ys.length
theorem mrgP_yes {x y : S54} {p q : List S54} (h : lessP y x = true) : mrgP (x :: p) (y :: q) = y :: mrgP (x :: p) q := by
  conv => lhs; unfold mrgP; rw [if_pos h]
theorem mrgP_no {x y : S54} {p q : List S54} (h : lessP y x = false) : mrgP (x :: p) (y :: q) = x :: mrgP p (y :: q) := by
  conv => lhs; unfold mrgP; rw [if_neg (by simp [h])]
/-- A merge sort of depth k. -/
def sortP : Nat → List S54 → List S54
  | 0, xs => xs
  | k + 1, xs => if xs.length < 2 then xs else mrgP (sortP k (xs.take (xs.length / 2))) (sortP k (xs.drop (xs.length / 2)))
theorem mrgP_length : ∀ xs ys : List S54, (mrgP xs ys).length = xs.length + ys.length
  | [], ys => by simp [mrgP]
  | x :: xs, [] => by simp [mrgP]
  | x :: xs, y :: ys => by
    unfold mrgP
    split
    · have := mrgP_length (x :: xs) ys
      simp only [List.length_cons] at this ⊢
      omega
    · have := mrgP_length xs (y :: ys)
      simp only [List.length_cons] at this ⊢
      omega
  termination_by xs ys => xs.length + ys.length
theorem sortP_length : ∀ (k : Nat) (xs : List S54), (sortP k xs).length = xs.length
  | 0, _ => rfl
  | k + 1, xs => by
    unfold sortP
    split
    · rfl
    · rw [mrgP_length, sortP_length k, sortP_length k, List.length_take, List.length_drop]
      omega

set_option maxRecDepth 1000000 in
theorem less_calls (a b : S54) (w : World) : Calls Try.prog 29 #[.agg #[.int .i64 a.f0, .int .i64 a.f1, .int .i64 a.f2, .int .i64 a.f3], .agg #[.int .i64 b.f0, .int .i64 b.f1, .int .i64 b.f2, .int .i64 b.f3]] w fun e w' => e = .returned (.bool (lessP a b)) ∧ Below w.heap.size w w' := by
  obtain ⟨a0, a1, a2, a3⟩ := a
  obtain ⟨b0, b1, b2, b3⟩ := b
  have hB := below_alloc (below_alloc (Below.refl w.heap.size w) (.cells #[.int .i64 a0, .int .i64 a1, .int .i64 a2, .int .i64 a3] 54)) (.cells #[.int .i64 b0, .int .i64 b1, .int .i64 b2, .int .i64 b3] 54)
  go_enter Try.func29, Try.ntmps29
  go_wp2_with (go_at_call 30; (with_reducible refine (steeper_quiet _ _ _ _ _).mono ?_); rintro e w' ⟨rfl, rfl⟩)
  go_ret
  exact ⟨rfl, hB⟩

theorem R_make0 {P : Program} {ops : Array Oper} {rest : List Oper} {o : Oper} {a : Act} {Q : Exit → Act → World → Prop} {α : Type} (d : Kd α) {w0 W : World} (base e : Nat) (hgd : o.guard = none) (t : TypeId) (x y : Operand) (ho : o.op = .makeSlice t x y) (n : Int) (hx : a.eval x = .int .i64 0) (hy : a.eval y = .int .i64 n)
    (ht : P.underlying t = some (.slice e)) (z : Value) (bytes : Nat) (hinfo : (P.info? e).map (fun i => (i.zero, i.size, i.bytes)) = some (some z, d.sz, bytes)) (hz : z.cells.size = d.sz) (hb0 : 0 < bytes)
    {ok : Nat → Prop} (hfresh : ok W.heap.size) (h0 : 0 ≤ n) (hl : n.toNat * bytes ≤ 281474976710656) (HB : Below base w0 W) (hbase : base ≤ W.heap.size)
    (h : ∀ v1 w1, d.R e w1 base ok v1 [] → Below base w0 w1 → Below W.heap.size W w1 → wpList P ops Q rest (a.put o.dst v1) w1) : wpList P ops Q (o :: rest) a W := by
  obtain ⟨m, rfl⟩ := Int.eq_ofNat_of_zero_le h0
  simp only [Int.toNat_natCast] at hl h
  obtain ⟨i0, hi, hzz⟩ := Option.map_eq_some_iff.1 hinfo
  simp only [Prod.mk.injEq] at hzz
  obtain ⟨hz0, hz1, hz2⟩ := hzz
  have hm : m ≤ 281474976710656 := Nat.le_trans (Nat.le_mul_of_pos_right _ hb0) hl
  have hr := run_make (P := P) W t e i0 z ht hi hz0 .i64 .i64 0 (m : Int) (by omega) (by omega)
    (by
      have h3 : ((i0.bytes * m : Nat) : Int) ≤ 281474976710656 := by rw [hz2, Nat.mul_comm]; omega
      rwa [Int.natCast_mul] at h3) (by omega)
  simp only [Int.toNat_natCast] at hr
  rw [hz1] at hr
  refine wpList_plain hgd fun K hK => ?_
  unfold Oper.wp execOp
  simp only [ho, hx, hy, Sem.run_bind, Sem.run_pure, Result.andThen_ok, hr]
  refine hK _ _ (h _ _ ⟨fun k hk => ?_, [], ⟨by simp, .inr ⟨W.heap.size, m, madeCells z.cells (m * d.sz), rfl, hbase, heap_alloc_new W _, by simp, by simp only [maxLen]; omega, by simp [size_madeCells], by simp⟩⟩, Reps.none _ _⟩ (HB.alloc hbase _) (below_alloc (Below.refl _ _) _))
  have hk : some W.heap.size = some k := hk
  injection hk with hk
  exact hk ▸ hfresh

theorem info54a : (Try.prog.info? 54).map (fun i => (i.zero, i.size, i.bytes)) = some (some (.agg #[.int .i64 0, .int .i64 0, .int .i64 0, .int .i64 0]), 4, 32) := by kernel_rfl
theorem head_cells {w : World} {A : Option Addr} {x : S54} {p : List S54} (h : Kd.C k54 w A (x :: p).length (x :: p)) : ∃ ad : Addr, A = some ad ∧ w.cell? ad = some (.int .i64 x.f0) ∧ w.cell? ⟨ad.block, ad.off + 1, none⟩ = some (.int .i64 x.f1) ∧ w.cell? ⟨ad.block, ad.off + 2, none⟩ = some (.int .i64 x.f2) ∧ w.cell? ⟨ad.block, ad.off + 3, none⟩ = some (.int .i64 x.f3) := by
  obtain ⟨ad, e, h0, h1, h2, h3⟩ := at_T54 h 0 (by decide) (by simp)
  have z : ad.add ((0 : Int).toNat * 4) = ad := by simp [Addr.add]
  rw [z] at h0 h1 h2 h3
  exact ⟨ad, e, h0, h1, h2, h3⟩
theorem tail_cut {w : World} {A : Option Addr} {c : Nat} {x : S54} {p : List S54} (h : Kd.C k54 w A (x :: p).length (x :: p)) (hc : (x :: p).length ≤ c) : ∃ A' : Option Addr, Kd.C k54 w A' p.length p ∧ p.length ≤ c - 1 ∧ ∀ W : World, (Instr.slice 44 (.slice A (p.length + 1) c) (some (.int .i64 1)) none none).run Try.prog W = .ok (.slice A' p.length (c - 1)) W := by
  obtain ⟨i0, hi0, hiz0, hsz0, hib0⟩ := info_parts info54a
  have hcut := cut_from (P := Try.prog) 44 54 .i64 Try.underlying44 hi0 4 hsz0 A (p.length + 1) c 1 (by omega) (by omega)
  have hr := Kd.C_drop (m := 1) (c := c) h (by simp) hc
  simp only [List.length_cons] at hc
  exact ⟨_, hr, by omega, hcut⟩
theorem R_append_held {P : Program} {ops : Array Oper} {o : Oper} {a : Act} {Q : Exit → Act → World → Prop} {Kc : Act → World → Prop} {E : Prop} {α : Type} (d : Kd α) {w0 W : World} (base : Nat) (hgd : o.guard = none) (s x : Operand) (t e : TypeId) (z : Value) (bytes : Nat)
    (ho : o.op = .call { callee := .builtin .append, args := #[s, x], argTypes := #[t, t] })
    (ht : P.underlying t = some (.slice e)) (hinfo : (P.info? e).map (fun i => (i.zero, i.size, i.bytes)) = some (some z, d.sz, bytes)) (hz : z.cells.size = d.sz) (hs0 : 0 < d.sz) (hb0 : 0 < bytes)
    (v : Value) (xs : List α) (p : α) (cs : List Value) (hs : a.eval s = v) (hx : a.eval x = .slice (some ⟨W.heap.size, 0, none⟩) 1 1) (hp : d.M W base (fun _ => False) p cs)
    (HO : d.R e W base (fun _ => True) v xs) (HB : Below base w0 W) (hbase : base ≤ W.heap.size) (hl : (xs.length + 1) * bytes ≤ 140737488355328)
    (h : ∀ v1 w1, d.R e w1 base (fun _ => True) v1 (xs ++ [p]) → Below base w0 w1 → Kc (a.put o.dst v1) w1) :
    if Region.wanted o (yielded ops a.tmps) = true then Oper.wp P o a (W.alloc (.cells cs.toArray e)) Kc Q else E := by
  have hw : Region.wanted o (yielded ops a.tmps) = true := by simp [Region.wanted, hgd]
  have g := Kd.R_append_step d (ops := ops) (o := o) (a := a) (Q := Q) (Kc := Kc) (w0 := w0) (W := W) base hw s x t e z bytes ho ht hinfo hz hs0 hb0 v xs p cs (fun _ => True) (fun _ => False) hs hx hp (fun _ hk => hk.elim) (fun _ _ => trivial) HO HB hbase hl (fun v1 w1 h1 h2 _ _ => h v1 w1 h1 h2)
  rw [if_pos hw] at g ⊢
  exact g
theorem k54_KM {w W : World} {base : Nat} {ok : Nat → Prop} : ∀ (x : S54) (cs : List Value), k54.K w x cs → k54.M W base ok x cs := fun x cs h => by
  rw [k54_open h]
  exact k54_mkM _ _ _ x
/-- What alloc.sorted answers: a list that reads as the sorted one; of fewer than two elements, the list itself. -/
def SortedPost (w : World) (base : Nat) (A : Option Addr) (c : Nat) (xs ys : List S54) (e : Ending) (w' : World) : Prop :=
  ∃ (A' : Option Addr) (c' : Nat), e = .returned (.slice A' ys.length c') ∧ Kd.C k54 w' A' ys.length ys ∧ ys.length ≤ c' ∧ Below w.heap.size w w' ∧
    ((A' = A ∧ c' = c ∧ ys = xs ∧ w' = w) ∨ Kd.R k54 54 w' w.heap.size (fun _ => True) (.slice A' ys.length c') ys)

set_option maxRecDepth 1000000 in
set_option maxHeartbeats 4000000 in
theorem sorted_walk : ∀ (k : Nat) (A : Option Addr) (c : Nat) (xs : List S54) (w : World), xs.length ≤ k → xs.length ≤ 100000000 → Kd.C k54 w A xs.length xs → xs.length ≤ c →
    Calls Try.prog 28 #[.slice A xs.length c, .func (.func 29) #[] #[]] w fun e w' => SortedPost w 0 A c xs (sortP k xs) e w'
  | 0, A, c, xs, w, hk, hn, hr, hc => by
    obtain rfl : xs = [] := List.eq_nil_of_length_eq_zero (by omega)
    go_enter Try.func28, Try.ntmps28
    go_wp2
    go_ret
    exact ⟨A, c, rfl, hr, hc, Below.refl _ _, .inl ⟨rfl, rfl, rfl, rfl⟩⟩
  | k + 1, A, c, xs, w, hk, hn, hr, hc => by
    by_cases h2 : xs.length < 2
    · have e : sortP (k + 1) xs = xs := by unfold sortP; rw [if_pos h2]
      rw [e]
      have hd : (xs.length : Int) < 2 := by omega
      clear e
      go_enter Try.func28, Try.ntmps28
      go_wp2
      go_ret
      exact ⟨A, c, rfl, hr, hc, Below.refl _ _, .inl ⟨rfl, rfl, rfl, rfl⟩⟩
    · have e : sortP (k + 1) xs = mrgP (sortP k (xs.take (xs.length / 2))) (sortP k (xs.drop (xs.length / 2))) := by conv => lhs; unfold sortP; rw [if_neg h2]
      rw [e]
      have IH := fun (A : Option Addr) (c : Nat) (ys : List S54) (w : World) (h : ys.length ≤ k) => sorted_walk k A c ys w h
      obtain ⟨i0, hi0, hiz0, hsz0, hib0⟩ := info_parts info54a
      obtain ⟨m, hm⟩ : ∃ m, m = xs.length / 2 := ⟨_, rfl⟩
      rw [← hm]
      have hq : (xs.length : Int) / 2 = (m : Int) := by rw [hm]; rfl
      have hm1 : m ≤ xs.length := by omega
      have hcut1 := cut_to (P := Try.prog) 44 54 .i64 Try.underlying44 hi0 A xs.length c (m : Int) (by omega) (by omega) hc
      have hcut2 := cut_from (P := Try.prog) 44 54 .i64 Try.underlying44 hi0 4 hsz0 A xs.length c (m : Int) (by omega) (by omega)
      rw [Int.toNat_natCast, ← hq] at hcut1 hcut2
      have hr1 := Kd.C_take (m := m) hr hm1
      have hr2 := Kd.C_drop (m := m) (c := c) hr hm1 hc
      have l1 : (xs.take m).length = m := by rw [List.length_take]; omega
      have l2 : (xs.drop m).length = xs.length - m := by rw [List.length_drop]
      have IH1 := fun W (hb : Below w.heap.size w W) => IH A c (xs.take m) W (by omega) (by omega) (Kd.C_below hr1 hb) (by omega)
      have IH2 := fun W (hb : Below w.heap.size w W) => IH (if c = m then A else Option.map (fun x => x.add (m * 4)) A) (c - m) (xs.drop m) W (by omega) (by omega) (Kd.C_below hr2 hb) (by omega)
      rw [l1] at IH1
      rw [l2] at IH2
      generalize hs1 : sortP k (xs.take m) = ys1 at *
      generalize hs2 : sortP k (xs.drop m) = ys2 at *
      have hy1 : ys1.length = m := by rw [← hs1, sortP_length, l1]
      have hy2 : ys2.length = xs.length - m := by rw [← hs2, sortP_length, l2]
      generalize (if c = m then A else Option.map (fun x => x.add (m * 4)) A) = A2 at *
      have I1 := Lib.hid IH1
      have I2 := Lib.hid IH2
      have hd2 : ¬ (xs.length : Int) < 2 := by omega
      have hb1 : (0 : Int) ≤ (m : Int) := by omega
      have hb2 : (m : Int) ≤ (xs.length : Int) := by omega
      have hb3 : (m : Int) ≤ (c : Int) := by omega
      have hb6 : (0 : Int) ≤ (xs.length : Int) / 2 := by omega
      have hb7 : (xs.length : Int) / 2 ≤ (xs.length : Int) := by omega
      have hb8 : (xs.length : Int) / 2 ≤ (c : Int) := by omega
      have hb9 : IntKind.i64.wrap ((xs.length : Int) / 2) = (xs.length : Int) / 2 := by rw [IntKind.wrap_i64]; omega
      have hb4 : (xs.length : Int) ≤ (c : Int) := by omega
      clear e hr1 hr2 hs1 hs2 IH IH1 IH2
      have HY1 := Lib.hid hy1
      have HY2 := Lib.hid hy2
      have HM := Lib.hid hm
      have HQ := Lib.hid hq
      clear hy1 hy2 hm hq l1 l2 hi0 hsz0 hiz0 hib0
      go_enter Try.func28, Try.ntmps28
      go_wp2
      have hS0 := below_drew (Below.refl w.heap.size w)
      have hS00 := Below.refl w.heap.size w
      go_region_held3 (fun W => Below w.heap.size w W) (first | go_keep | assumption)
        (first | (go_at_call 28; ((with_reducible refine (I1.out _ ?_).mono ?_); (assumption); (rintro e w' ⟨Aa, ca, rfl, hCa, hca, hba, hora⟩; have hS := below_step (show Below w.heap.size w _ by assumption) hba; (try have hCb := Kd.C_below hCb hba)))) | (go_at_call 28; ((with_reducible refine (I2.out _ ?_).mono ?_); (assumption); (rintro e w' ⟨Ab, cb, rfl, hCb, hcb, hbb, horb⟩; have hS := below_step (show Below w.heap.size w _ by assumption) hbb; (try have hCa := Kd.C_below hCa hbb)))))
      all_goals
        go_wp2_with ((with_reducible refine gate_dst (N := 28) rfl ?_); refine R_make0 k54 _ 54 rfl 44 _ _ rfl (xs.length : Int) rfl rfl Try.underlying44 _ 32 info54a rfl (by decide) (ok := fun _ => True) trivial (by omega) (by simp; omega) (Below.refl _ _) (Nat.le_refl _) ?_; intro v7 w7 hO7 hB7 hB8)
        obtain ⟨wM, hMB, hMA, hMb, hMw, hMO⟩ : ∃ wM : World, Below wM.heap.size wM w7 ∧ Kd.C k54 wM Aa ys1.length ys1 ∧ Kd.C k54 wM Ab ys2.length ys2 ∧ Below w.heap.size w wM ∧ Kd.R k54 54 w7 wM.heap.size (fun _ => True) v7 [] := ⟨_, hB7, hCa, hCb, hS, hO7⟩
        have HMB := Aside0.mk hMB
        have HMA := Aside0.mk hMA
        have HMb := Aside0.mk hMb
        have HMw := Aside0.mk hMw
        have HMO := Aside0.mk hMO
        have HcA := Lib.hid hca
        have HcB := Lib.hid hcb
        clear hMB hMA hMb hMw hMO hB7 hB8 hO7 hS hca hcb hCa hCb
        (try clear hora)
        (try clear horb)
        (try clear hba)
        (try clear hbb)
        clear hS0 hS00 hcut1 hcut2 I1 I2 hb1 hb2 hb3 hb6 hb7 hb8 hb9 hd2
        go_loopg [5, 6, 7] (xs.length + 1) (fun kq v5 v6 v7 w' => ∃ (Ap : Option Addr) (cp : Nat) (p : List S54) (Aq : Option Addr) (cq : Nat) (q o : List S54), v5 = .slice Ap p.length cp ∧ v6 = .slice Aq q.length cq ∧ Aside0 (p.length ≤ cp ∧ Kd.C k54 wM Ap p.length p) ∧ Aside0 (q.length ≤ cq ∧ Kd.C k54 wM Aq q.length q) ∧ Aside0 (Kd.R k54 54 w' wM.heap.size (fun _ => True) v7 o) ∧ Aside0 (Below wM.heap.size wM w') ∧ Aside0 (o ++ mrgP p q = mrgP ys1 ys2 ∧ kq = p.length + q.length + 1 ∧ o.length + p.length + q.length = xs.length))
        case atStart =>
          exact ⟨Aa, ca, ys1, Ab, cb, ys2, [], rfl, rfl, ⟨HcA.out, HMA.out⟩, ⟨HcB.out, HMb.out⟩, HMO, HMB, ⟨rfl, by have := HY1.out; have := HY2.out; omega, by have := HY1.out; have := HY2.out; simp; omega⟩⟩
        case round =>
          obtain ⟨Ap, cp, p, Aq, cq, q, o, rfl, rfl, HP, HQQ, HO, HB, HL⟩ := hrel
          clear HMO HMB HMA HMb HcA HcB HY1 HY2
          cases p with
          | nil =>
            have hl1 : (o.length + ([] : List S54).length) * 32 ≤ 140737488355328 := by have := HL.out.2.2; simp only [List.length_cons, List.length_nil] at this ⊢; omega
            have hl2 : ((o ++ ([] : List S54)).length + (q).length) * 32 ≤ 140737488355328 := by have := HL.out.2.2; simp only [List.length_append, List.length_cons, List.length_nil] at this ⊢; omega
            have H1 := Lib.hid hl1
            have H2 := Lib.hid hl2
            clear hl1 hl2
            go_wp2_with (first | ((with_reducible refine gate_builtin (b := .append) (xs := #[.tmp 61, .tmp 62]) rfl ?_); at_builtin; refine Kd.R_append_rows k54 (w0 := wM) wM.heap.size rfl (.tmp 61) (.tmp 62) 44 54 _ 32 rfl Try.underlying44 info54a rfl (by decide) (by omega) _ o ([] : List S54) _ _ _ (fun _ => True) (fun _ => False) rfl rfl HO.out (Kd.C_below HP.out.2 HB.out) k54_KM (fun _ h => h.elim) (fun _ _ => trivial) HB.out HB.out.size ?aL ?_; (case aL => exact H1.out); intro v3 w3 hO3 hB3 hg3 hat3) | ((with_reducible refine gate_builtin (b := .append) (xs := #[.tmp 63, .tmp 64]) rfl ?_); at_builtin; refine Kd.R_append_rows k54 (w0 := wM) wM.heap.size rfl (.tmp 63) (.tmp 64) 44 54 _ 32 rfl Try.underlying44 info54a rfl (by decide) (by omega) _ (o ++ ([] : List S54)) (q) _ _ _ (fun _ => True) (fun _ => False) rfl rfl hO3 (Kd.C_below HQQ.out.2 hB3) k54_KM (fun _ h => h.elim) (fun _ _ => trivial) hB3 hB3.size ?aL ?_; (case aL => exact H2.out); intro v4 w4 hO4 hB4 hg4 hat4))
            go_ret
            have hys : o ++ ([] : List S54) ++ q = mrgP ys1 ys2 := by have := HL.out.1; rw [← this]; simp [mrgP]
            rw [hys] at hO4
            obtain ⟨A4, c4, rfl, hc4, hR4⟩ := Kd.R_reads hO4
            exact ⟨A4, c4, rfl, hR4, hc4, below_then HMw.out HMw.out.size hB4, .inr (Kd.R_lower hO4 HMw.out.size)⟩
          | cons x p =>
            cases q with
            | nil =>
              have hl1 : (o.length + (x :: p).length) * 32 ≤ 140737488355328 := by have := HL.out.2.2; simp only [List.length_cons, List.length_nil] at this ⊢; omega
              have hl2 : ((o ++ (x :: p)).length + ([] : List S54).length) * 32 ≤ 140737488355328 := by have := HL.out.2.2; simp only [List.length_append, List.length_cons, List.length_nil] at this ⊢; omega
              have H1 := Lib.hid hl1
              have H2 := Lib.hid hl2
              clear hl1 hl2
              go_wp2_with (first | ((with_reducible refine gate_builtin (b := .append) (xs := #[.tmp 61, .tmp 62]) rfl ?_); at_builtin; refine Kd.R_append_rows k54 (w0 := wM) wM.heap.size rfl (.tmp 61) (.tmp 62) 44 54 _ 32 rfl Try.underlying44 info54a rfl (by decide) (by omega) _ o (x :: p) _ _ _ (fun _ => True) (fun _ => False) rfl rfl HO.out (Kd.C_below HP.out.2 HB.out) k54_KM (fun _ h => h.elim) (fun _ _ => trivial) HB.out HB.out.size ?aL ?_; (case aL => exact H1.out); intro v3 w3 hO3 hB3 hg3 hat3) | ((with_reducible refine gate_builtin (b := .append) (xs := #[.tmp 63, .tmp 64]) rfl ?_); at_builtin; refine Kd.R_append_rows k54 (w0 := wM) wM.heap.size rfl (.tmp 63) (.tmp 64) 44 54 _ 32 rfl Try.underlying44 info54a rfl (by decide) (by omega) _ (o ++ (x :: p)) ([] : List S54) _ _ _ (fun _ => True) (fun _ => False) rfl rfl hO3 (Kd.C_below HQQ.out.2 hB3) k54_KM (fun _ h => h.elim) (fun _ _ => trivial) hB3 hB3.size ?aL ?_; (case aL => exact H2.out); intro v4 w4 hO4 hB4 hg4 hat4))
              go_ret
              have hys : o ++ (x :: p) ++ ([] : List S54) = mrgP ys1 ys2 := by have := HL.out.1; rw [← this]; simp [mrgP]
              rw [hys] at hO4
              obtain ⟨A4, c4, rfl, hc4, hR4⟩ := Kd.R_reads hO4
              exact ⟨A4, c4, rfl, hR4, hc4, below_then HMw.out HMw.out.size hB4, .inr (Kd.R_lower hO4 HMw.out.size)⟩

            | cons y q =>
              obtain ⟨ap, rfl, p0, p1, p2, p3⟩ := head_cells HP.out.2
              obtain ⟨aq, rfl, q0, q1, q2, q3⟩ := head_cells HQQ.out.2
              obtain ⟨Ap', hCp', hcp', hcutp⟩ := tail_cut HP.out.2 HP.out.1
              obtain ⟨Aq', hCq', hcq', hcutq⟩ := tail_cut HQQ.out.2 HQQ.out.1
              have HCP := Aside0.mk (And.intro hcp' hCp')
              have HCQ := Aside0.mk (And.intro hcq' hCq')
              clear hCp' hcp' hCq' hcq'
              have PM := Aside0.mk (And.intro p0 (And.intro p1 (And.intro p2 p3)))
              have QM := Aside0.mk (And.intro q0 (And.intro q1 (And.intro q2 q3)))
              have hb := HB.out
              replace p0 := pw_cell_below hb p0
              replace p1 := pw_cell_below hb p1
              replace p2 := pw_cell_below hb p2
              replace p3 := pw_cell_below hb p3
              replace q0 := pw_cell_below hb q0
              replace q1 := pw_cell_below hb q1
              replace q2 := pw_cell_below hb q2
              replace q3 := pw_cell_below hb q3
              clear hb
              have lp : (0 : Int) < ((x :: p).length : Int) := by simp
              have lq : (0 : Int) < ((y :: q).length : Int) := by simp
              go_wp2
              go_region_held3 (fun W => W.cell? ap = some (.int .i64 x.f0) ∧ W.cell? ⟨ap.block, ap.off + 1, none⟩ = some (.int .i64 x.f1) ∧ W.cell? ⟨ap.block, ap.off + 2, none⟩ = some (.int .i64 x.f2) ∧ W.cell? ⟨ap.block, ap.off + 3, none⟩ = some (.int .i64 x.f3) ∧ W.cell? aq = some (.int .i64 y.f0) ∧ W.cell? ⟨aq.block, aq.off + 1, none⟩ = some (.int .i64 y.f1) ∧ W.cell? ⟨aq.block, aq.off + 2, none⟩ = some (.int .i64 y.f2) ∧ W.cell? ⟨aq.block, aq.off + 3, none⟩ = some (.int .i64 y.f3)) (first | go_keep | assumption)
                ((go_at_call 29; (with_reducible refine (less_calls y x _).mono ?_); rintro e w2 ⟨rfl, hbl⟩; have HO2 := Aside0.mk (Kd.R_below (Kd.R_drew HO.out) hbl); have HB2 := Aside0.mk (below_step (below_drew1 HB.out) hbl); have hS := And.intro (pw_cell_below hbl p0) (And.intro (pw_cell_below hbl p1) (And.intro (pw_cell_below hbl p2) (And.intro (pw_cell_below hbl p3) (And.intro (pw_cell_below hbl q0) (And.intro (pw_cell_below hbl q1) (And.intro (pw_cell_below hbl q2) (pw_cell_below hbl q3)))))))))
              clear p0 p1 p2 p3 q0 q1 q2 q3 HO HB
              obtain ⟨p0, p1, p2, p3, q0, q1, q2, q3⟩ := hS
              cases hle : lessP y x with
              | true =>
                go_wp2
                go_region_held3 (fun W => W.cell? aq = some (.int .i64 y.f0) ∧ W.cell? ⟨aq.block, aq.off + 1, none⟩ = some (.int .i64 y.f1) ∧ W.cell? ⟨aq.block, aq.off + 2, none⟩ = some (.int .i64 y.f2) ∧ W.cell? ⟨aq.block, aq.off + 3, none⟩ = some (.int .i64 y.f3)) (first | go_keep | assumption)
                  ((refine R_append_held k54 (w0 := wM) wM.heap.size rfl _ _ 44 54 _ 32 rfl Try.underlying44 info54a rfl (by decide) (by omega) _ o y _ rfl rfl (k54_mkM _ _ _ y) (Kd.R_drew HO2.out) (below_drew1 HB2.out) (below_drew1 HB2.out).size (by have := HL.out.2.2; simp at this; omega) ?_; intro v3 w3 hO3 hB3; have hS := And.intro (pw_cell_below hB3 QM.out.1) (And.intro (pw_cell_below hB3 QM.out.2.1) (And.intro (pw_cell_below hB3 QM.out.2.2.1) (pw_cell_below hB3 QM.out.2.2.2)))))
                go_wp2
                go_roundg (gk - 1)
                case measure => have := HL.out; simp at this; omega
                case rel => exact ⟨_, _, x :: p, Aq', _, q, o ++ [y], rfl, rfl, HP, HCQ, ⟨hO3⟩, ⟨hB3⟩, ⟨by have := HL.out.1; rw [← this, mrgP_yes hle]; simp, by have := HL.out.2.1; simp at this ⊢; omega, by have := HL.out.2.2; simp at this ⊢; omega⟩⟩
              | false =>
                go_wp2
                go_region_held3 (fun W => W.cell? ap = some (.int .i64 x.f0) ∧ W.cell? ⟨ap.block, ap.off + 1, none⟩ = some (.int .i64 x.f1) ∧ W.cell? ⟨ap.block, ap.off + 2, none⟩ = some (.int .i64 x.f2) ∧ W.cell? ⟨ap.block, ap.off + 3, none⟩ = some (.int .i64 x.f3)) (first | go_keep | assumption)
                  ((refine R_append_held k54 (w0 := wM) wM.heap.size rfl _ _ 44 54 _ 32 rfl Try.underlying44 info54a rfl (by decide) (by omega) _ o x _ rfl rfl (k54_mkM _ _ _ x) (Kd.R_drew HO2.out) (below_drew1 HB2.out) (below_drew1 HB2.out).size (by have := HL.out.2.2; simp at this; omega) ?_; intro v3 w3 hO3 hB3; have hS := And.intro (pw_cell_below hB3 PM.out.1) (And.intro (pw_cell_below hB3 PM.out.2.1) (And.intro (pw_cell_below hB3 PM.out.2.2.1) (pw_cell_below hB3 PM.out.2.2.2)))))
                go_wp2
                go_roundg (gk - 1)
                case measure => have := HL.out; simp at this; omega
                case rel => exact ⟨Ap', _, p, _, _, y :: q, o ++ [x], rfl, rfl, HCP, HQQ, ⟨hO3⟩, ⟨hB3⟩, ⟨by have := HL.out.1; rw [← this, mrgP_no hle]; simp, by have := HL.out.2.1; simp at this ⊢; omega, by have := HL.out.2.2; simp at this ⊢; omega⟩⟩
end Go.Proofs.Ytgmadhlebpbcpaa.P
