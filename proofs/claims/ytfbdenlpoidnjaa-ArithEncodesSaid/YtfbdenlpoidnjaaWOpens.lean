/- What reads as data of a type is of the kind that the printed walks ask for: slices, structs, arrays, strings, numbers, whatever they hold.
   Plain: over any program. -/
import Derived.Test.YtfbdenlpoidnjaaWSized
import Derived.Test.YtfbdenlpoidnjaaWWords
import Derived.Test.YtfbdenlpoidnjaaWArr
import Derived.Below
import Derived.Lib.AppendStr
set_option linter.unusedVariables false
set_option linter.unusedSimpArgs false
namespace Go.Proofs.YtfbdenlpoidnjaaW.Opens
open Go.RowKit Go.Proofs.YtfbdenlpoidnjaaW.PrintWords

theorem mapM_get {α β : Type} {f : α → Option β} : ∀ {l : List α} {ys : List β}, l.mapM f = some ys → ys.length = l.length ∧ ∀ (i : Nat) (x : α), l[i]? = some x → ∃ y, ys[i]? = some y ∧ f x = some y
  | [], ys, h => by
    simp at h
    subst h
    exact ⟨rfl, fun i x hx => by simp at hx⟩
  | a :: l, ys, h => by
    rw [List.mapM_cons] at h
    simp only [Option.bind_eq_bind, Option.bind_eq_some_iff, Option.pure_def, Option.some.injEq] at h
    obtain ⟨y, hy, zs, hz, rfl⟩ := h
    obtain ⟨hl, hg⟩ := mapM_get hz
    refine ⟨by simp [hl], fun i x hx => ?_⟩
    cases i with
    | zero =>
      simp at hx
      subst hx
      exact ⟨y, by simp, hy⟩
    | succ i =>
      simp only [List.getElem?_cons_succ] at hx ⊢
      exact hg i x hx

theorem exists_list {α : Type} {Q : Nat → α → Prop} : ∀ {n : Nat}, (∀ i, i < n → ∃ a, Q i a) → ∃ l : List α, l.length = n ∧ ∀ (i : Nat) (a : α), l[i]? = some a → Q i a
  | 0, _ => ⟨[], rfl, fun i a h => by simp at h⟩
  | n + 1, h => by
    obtain ⟨l, hl, hq⟩ := exists_list (n := n) (fun i hi => h i (by omega))
    obtain ⟨a, ha⟩ := h n (by omega)
    refine ⟨l ++ [a], by simp [hl], fun i b hb => ?_⟩
    rcases Nat.lt_or_ge i l.length with hi | hi
    · rw [List.getElem?_append_left hi] at hb
      exact hq i b hb
    · have hlt := (List.getElem?_eq_some_iff.1 hb).1
      rw [List.length_append, List.length_singleton] at hlt
      have : i = l.length := by omega
      subst this
      have hb' : a = b := by simpa using hb
      subst hb'
      rw [hl]
      exact ha

theorem weightsAll_mem {H : Type} {P : Program} {e : TypeId} {n : Nat} : ∀ {ds : List (DataW H)} {i : Nat} {d : DataW H}, ds[i]? = some d → n ∈ d.weights P e → n ∈ DataW.weightsAll P e ds
  | [], i, d, h, _ => by simp at h
  | d0 :: ds, 0, d, h, hn => by
    simp at h
    subst h
    simp only [DataW.weightsAll, List.mem_append]
    exact .inl hn
  | d0 :: ds, i + 1, d, h, hn => by
    simp only [List.getElem?_cons_succ] at h
    simp only [DataW.weightsAll, List.mem_append]
    exact .inr (weightsAll_mem h hn)

theorem add_add (a : Addr) (i j : Nat) : (a.add i).add j = a.add (i + j) := by
  unfold Addr.add
  by_cases hi : i = 0
  · subst hi; simp
  · by_cases hj : j = 0
    · subst hj; simp [hi]
    · simp [hi, hj, Nat.add_assoc]

theorem cells?_get {w : World} {base : Nat} {a : Addr} {n : Nat} {c : List Value} (h : w.cells? base a n = some c) : c.length = n ∧ ∀ (i : Nat) (u : Value), c[i]? = some u → w.cell? (a.add i) = some u := by
  unfold World.cells? at h
  split at h
  · obtain ⟨hl, hg⟩ := mapM_get h
    rw [List.length_range] at hl
    refine ⟨hl, fun i u hu => ?_⟩
    have hlt := (List.getElem?_eq_some_iff.1 hu).1
    obtain ⟨y, hy, hf⟩ := hg i i (List.getElem?_range (by omega))
    rw [hu] at hy
    injection hy with hy
    subst hy
    exact hf
  · cases h

/-- What reads as data of type T, at this fuel, is of kind d, and G holds of it. -/
def OpensAt (P : Program) (fuel : Nat) (T : TypeId) {α : Type} (d : Kd α) (G : α → Prop) : Prop :=
  ∀ (H : Type) (enc : TypeId × Value → H) (w : World) (cs : List Value) (x : DataW H × List MemPlace),
    DataW.trod enc P w 0 (fun _ => true) true fuel T cs = some x → (∀ n ∈ x.1.weights P T, n ≤ 140737488351232) → ∃ a, d.K w a cs ∧ G a
/-- At every fuel. -/
def Opens (P : Program) (T : TypeId) {α : Type} (d : Kd α) (G : α → Prop) : Prop := ∀ fuel, OpensAt P fuel T d G

theorem opens_zero {P : Program} {T : TypeId} {α : Type} {d : Kd α} {G : α → Prop} : OpensAt P 0 T d G := by
  intro H enc w cs x h
  simp [DataW.trod] at h

theorem Opens.of {P : Program} {T : TypeId} {α : Type} {d : Kd α} {G : α → Prop} (h : ∀ fuel, OpensAt P (fuel + 1) T d G) : Opens P T d G
  | 0 => opens_zero
  | fuel + 1 => h fuel

theorem OpensAt.imp {P : Program} {fuel : Nat} {T : TypeId} {α : Type} {d : Kd α} {G G' : α → Prop} (h : OpensAt P fuel T d G) (hG : ∀ a, G a → G' a) : OpensAt P fuel T d G' := by
  intro H enc w cs x hx hw
  obtain ⟨a, ha, hg⟩ := h _ enc w cs x hx hw
  exact ⟨a, ha, hG a hg⟩

theorem opens_int {P : Program} {T : TypeId} {k : IntKind} (hu : P.underlying T = some (.int k)) : Opens P T (Kd.int k) (fun n => (Lit.int k n).wf = true) := by
  refine Opens.of fun fuel => ?_
  intro H enc w cs x h _
  simp only [DataW.trod, hu] at h
  split at h <;> simp_all
  obtain ⟨⟨hk, hwf⟩, _⟩ := h
  exact ⟨_, rfl, hwf⟩

theorem opens_bool {P : Program} {T : TypeId} (hu : P.underlying T = some .bool) : Opens P T Kd.bool (fun _ => True) := by
  refine Opens.of fun fuel => ?_
  intro H enc w cs x h _
  simp only [DataW.trod, hu] at h
  split at h
  all_goals first | (exact ⟨_, rfl, trivial⟩) | (simp_all; done)

theorem opens_string {P : Program} {T : TypeId} (hu : P.underlying T = some .string) : Opens P T Kd.string (fun s => s.size ≤ 140737488351232) := by
  refine Opens.of fun fuel => ?_
  intro H enc w cs x h hw
  simp only [DataW.trod, hu] at h
  split at h <;> simp_all
  obtain ⟨_, rfl⟩ := h
  refine ⟨_, rfl, ?_⟩
  simpa [DataW.weights] using hw

theorem opens_slice {P : Program} {fuel : Nat} {T e : TypeId} {α : Type} {d : Kd α} {G : α → Prop} {B : Nat} (hu : P.underlying T = some (.slice e)) (hc : P.cellsOf e = d.sz) (hb : P.bytesOf e = B) (h : OpensAt P fuel e d G) :
    OpensAt P (fuel + 1) T (Kd.slice e d) (fun xs => xs.length * B ≤ 140737488351232 ∧ ∀ x ∈ xs, G x) := by
  intro H enc w cs x hx hw
  simp only [DataW.trod, hu] at hx
  split at hx <;> try (simp at *; done)
  · exact ⟨[], ⟨none, 0, rfl, Nat.le_refl _, rfl, by simp, fun h0 => by simp at h0⟩, by simp, by simp⟩
  · rename_i a len cap heq
    cases heq
    split at hx
    · rename_i hcond
      simp only [Option.bind_eq_some_iff, Option.map_eq_some_iff] at hx
      obtain ⟨elems, he, rest, hr, rfl⟩ := hx
      obtain ⟨hl, hg⟩ := mapM_get he
      rw [List.length_range] at hl
      simp only [DataW.weights, hu, List.length_map] at hw
      have hel : ∀ i, i < len → ∃ b, (∃ c, c.length = d.sz ∧ d.K w b c ∧ ∀ j u, c[j]? = some u → w.cell? (a.add (i * d.sz + j)) = some u) ∧ G b := by
        intro i hi
        obtain ⟨y, hy, hf⟩ := hg i i (List.getElem?_range (by omega))
        obtain ⟨c, hcs, ht⟩ := Option.bind_eq_some_iff.1 hf
        obtain ⟨hcl, hcg⟩ := cells?_get hcs
        obtain ⟨b, hK, hG⟩ := h _ enc w c y ht (fun n hn => hw n (by
          refine List.mem_cons_of_mem _ (List.mem_append_left _ (weightsAll_mem (i := i) (d := y.1) ?_ hn))
          simp [hy]))
        refine ⟨b, ⟨c, by rw [hcl, hc], hK, fun j u hu' => ?_⟩, hG⟩
        rw [← add_add, ← hc]
        exact hcg j u hu'
      obtain ⟨l, hll, hlq⟩ := exists_list hel
      refine ⟨l, ⟨some a, cap, by rw [hll], by omega, rfl, ?_, fun _ => ⟨a, rfl, fun j p hp => (hlq j p hp).1⟩⟩, ?_, ?_⟩
      · have := hcond.2.2
        simp only [maxLen] at this
        omega
      · have z := hw _ List.mem_cons_self
        rw [hb] at z
        rw [hll, ← hl]
        exact Nat.le_trans (Nat.mul_le_mul_right _ (Nat.le_add_right _ _)) z
      · intro x hx
        obtain ⟨i, hi⟩ := List.getElem?_of_mem hx
        exact (hlq i x hi).2
    · cases hx

/-- The same of fields in line, from a place on. -/
def OpensFs (P : Program) (fuel : Nat) (fs : List Field) (off : Nat) {α : Type} (d : Kd α) (G : α → Prop) : Prop :=
  ∀ (H : Type) (enc : TypeId × Value → H) (w : World) (cs : List Value) (xs : List (DataW H × List MemPlace)),
    off + d.sz ≤ cs.length → fs.mapM (fun f => DataW.trod enc P w 0 (fun _ => true) true fuel f.type ((cs.drop f.offset).take (P.cellsOf f.type))) = some xs →
    (∀ n ∈ DataW.weightsEach P (fs.map (·.type)) (xs.map (·.1)), n ≤ 140737488351232) → ∃ a, d.K w a ((cs.drop off).take d.sz) ∧ G a

theorem opens_last {P : Program} {fuel : Nat} {f : Field} {off : Nat} {α : Type} {d : Kd α} {G : α → Prop} (ho : f.offset = off) (hc : P.cellsOf f.type = d.sz) (h : OpensAt P fuel f.type d G) : OpensFs P fuel [f] off d G := by
  intro H enc w cs xs hl hm hw
  rw [List.mapM_cons] at hm
  simp only [Option.bind_eq_bind, Option.bind_eq_some_iff, Option.pure_def, Option.some.injEq, List.mapM_nil] at hm
  obtain ⟨y, hy, zs, rfl, rfl⟩ := hm
  rw [ho, hc] at hy
  exact h _ enc w _ y hy (fun n hn => hw n (by simp [DataW.weightsEach, hn]))

theorem opens_cons {P : Program} {fuel : Nat} {f : Field} {fs : List Field} {off : Nat} {α β : Type} {d : Kd α} {d' : Kd β} {G : α → Prop} {G' : β → Prop} (ho : f.offset = off) (hc : P.cellsOf f.type = d.sz) (h : OpensAt P fuel f.type d G)
    (h' : OpensFs P fuel fs (off + d.sz) d' G') : OpensFs P fuel (f :: fs) off (Kd.pair d d') (fun x => G x.1 ∧ G' x.2) := by
  intro H enc w cs xs hl hm hw
  have hl' : off + (d.sz + d'.sz) ≤ cs.length := hl
  rw [List.mapM_cons] at hm
  simp only [Option.bind_eq_bind, Option.bind_eq_some_iff, Option.pure_def, Option.some.injEq] at hm
  obtain ⟨y, hy, zs, hz, rfl⟩ := hm
  rw [ho, hc] at hy
  obtain ⟨a, ha, hga⟩ := h _ enc w _ y hy (fun n hn => hw n (by simp [DataW.weightsEach, hn]))
  obtain ⟨b, hb, hgb⟩ := h' _ enc w cs zs (by omega) hz (fun n hn => hw n (by simp only [List.map_cons, DataW.weightsEach, List.mem_append]; exact .inr hn))
  refine ⟨(a, b), ⟨_, _, ?_, ha, hb⟩, hga, hgb⟩
  show List.take (d.sz + d'.sz) (cs.drop off) = _
  rw [List.take_add, List.drop_drop]

theorem opens_struct {P : Program} {fuel : Nat} {T : TypeId} {fs : Array Field} {α β : Type} {d : Kd α} {f : β → α} {G : α → Prop} {G' : β → Prop} (hu : P.underlying T = some (.struct fs)) (hc : P.cellsOf T = d.sz) (h : OpensFs P fuel fs.toList 0 d G)
    (g : α → β) (hf : ∀ a, f (g a) = a) (hG : ∀ a, G a → G' (g a)) : OpensAt P (fuel + 1) T (Kd.iso d f) G' := by
  intro H enc w cs x hx hw
  simp only [DataW.trod, hu] at hx
  split at hx
  · rename_i hlen
    obtain ⟨xs, hm, rfl⟩ := Option.map_eq_some_iff.1 hx
    obtain ⟨a, ha, hga⟩ := h _ enc w cs xs (by omega) hm (fun n hn => hw n (by simpa [DataW.weights, hu] using hn))
    refine ⟨g a, ?_, hG a hga⟩
    show d.K w (f (g a)) cs
    rw [hf]
    rw [List.drop_zero, List.take_of_length_le (by omega)] at ha
    exact ha
  · cases hx

theorem opens_arr {P : Program} {fuel : Nat} {T e : TypeId} {n : Nat} {α : Type} {d : Kd α} {G : α → Prop} {hs : 0 < d.sz} (hu : P.underlying T = some (.array n e)) (hc : P.cellsOf e = d.sz) (hcT : P.cellsOf T = n * d.sz) (h : OpensAt P fuel e d G) :
    OpensAt P (fuel + 1) T (Kd.arr n d hs) (fun xs => xs.length = n ∧ ∀ x ∈ xs, G x) := by
  intro H enc w cs x hx hw
  simp only [DataW.trod, hu] at hx
  split at hx
  · rename_i hlen
    obtain ⟨xs, hm, rfl⟩ := Option.map_eq_some_iff.1 hx
    obtain ⟨hl, hg⟩ := mapM_get hm
    rw [List.length_range] at hl
    simp only [DataW.weights, hu] at hw
    have hel : ∀ i, i < n → ∃ b, d.K w b ((cs.drop (i * d.sz)).take d.sz) ∧ G b := by
      intro i hi
      obtain ⟨y, hy, ht⟩ := hg i i (List.getElem?_range (by omega))
      rw [hc] at ht
      exact h _ enc w _ y ht (fun m hm' => hw m (weightsAll_mem (i := i) (d := y.1) (by simp [hy]) hm'))
    obtain ⟨l, hll, hlq⟩ := exists_list hel
    refine ⟨l, ⟨hll, by rw [hlen, hcT, hll], fun j p hp => (hlq j p hp).1⟩, hll, ?_⟩
    intro x hx
    obtain ⟨i, hi⟩ := List.getElem?_of_mem hx
    exact (hlq i x hi).2
  · cases hx

/-- An argument that is a slice. -/
theorem arg_slice {P : Program} {T e : TypeId} {α : Type} {d : Kd α} {G : List α → Prop} (ho : Opens P T (Kd.slice e d) G) {H : Type} {enc : TypeId × Value → H} {w : World} {a : Option Addr} {len cap : Nat} {x : DataW H} {ps : List MemPlace}
    (h : DataW.Trod enc P w 0 (fun _ => true) true T (.slice a len cap) x ps) (hw : ∀ n ∈ x.weights P T, n ≤ 140737488351232) : ∃ l : List α, len = l.length ∧ l.length ≤ cap ∧ d.C w a l.length l ∧ G l := by
  obtain ⟨fuel, hf⟩ := h
  obtain ⟨l, ⟨A, c, hcs, hlc, hC⟩, hG⟩ := ho fuel _ enc w _ _ hf hw
  simp [Value.cells] at hcs
  obtain ⟨rfl, rfl, rfl⟩ := hcs
  exact ⟨l, rfl, hlc, hC, hG⟩

/-- An argument that is a struct or an array. -/
theorem arg_agg {P : Program} {T : TypeId} {α : Type} {d : Kd α} {G : α → Prop} (ho : Opens P T d G) {H : Type} {enc : TypeId × Value → H} {w : World} {cs : Array Value} {x : DataW H} {ps : List MemPlace}
    (h : DataW.Trod enc P w 0 (fun _ => true) true T (.agg cs) x ps) (hw : ∀ n ∈ x.weights P T, n ≤ 140737488351232) : ∃ a : α, d.K w a cs.toList ∧ G a := by
  obtain ⟨fuel, hf⟩ := h
  exact ho fuel _ enc w _ _ hf hw

theorem okWide_agg {P : Program} {w : World} {r : Reach} {base : Nat} {t : TypeId} {v : Value} {fs : Array Field} (hu : P.underlying t = some (.struct fs)) (h : Value.okWide P w r base t v) : ∃ cs, v = .agg cs := by
  unfold Value.okWide at h
  rw [hu] at h
  obtain ⟨cs, rfl, _⟩ := h
  exact ⟨cs, rfl⟩
theorem okWide_array {P : Program} {w : World} {r : Reach} {base : Nat} {t : TypeId} {v : Value} {n : Nat} {e : TypeId} (hu : P.underlying t = some (.array n e)) (h : Value.okWide P w r base t v) : ∃ cs, v = .agg cs := by
  unfold Value.okWide at h
  rw [hu] at h
  obtain ⟨cs, rfl, _⟩ := h
  exact ⟨cs, rfl⟩

/-- What the row's weights say of one argument. -/
theorem weighed {H : Type} {P : Program} {ts : List TypeId} {ds : List (DataW H)} (h : (DataW.weightsEach P ts ds).all (· ≤ reachBytes) = true) {j : Nat} {t : TypeId} {d : DataW H} (ht : ts[j]? = some t) (hd : ds[j]? = some d) : ∀ n ∈ d.weights P t, n ≤ 140737488351232 := by
  intro n hn
  have := List.all_eq_true.1 h _ (DataW.weights_mem_each ht hd n hn)
  exact of_decide_eq_true this

/-! ### comparisons of strings, as the printed functions spell them -/
theorem less_tri : ∀ (x y : List UInt8), (!(Op.bytesLess x y || x == y)) = Op.bytesLess y x
  | [], [] => by simp [Op.bytesLess]
  | [], b :: y => by simp [Op.bytesLess]
  | a :: x, [] => by simp [Op.bytesLess]
  | a :: x, b :: y => by
    have ih := less_tri x y
    simp only [Op.bytesLess, List.cons_beq_cons]
    by_cases h1 : a < b
    · have h2 : ¬ b < a := by simp only [UInt8.lt_iff_toNat_lt] at *; omega
      have h3 : ¬ b = a := by rintro rfl; simp only [UInt8.lt_iff_toNat_lt] at *; omega
      simp [h1, h2, h3]
    · by_cases h3 : a = b
      · subst h3
        simp [h1, ih]
      · have h2 : b < a := by
          have : a.toNat ≠ b.toNat := fun h => h3 (UInt8.toNat_inj.1 h)
          simp only [UInt8.lt_iff_toNat_lt] at *
          omega
        simp [h1, h2, h3]
@[go_sem] theorem str_gtr (t : TypeId) (a b : ByteArray) : binOp .gtr t (.string a) (.string b) = pure (.bool (Op.bytesLess b.toList a.toList)) := by
  rw [← less_tri]
  simp [binOp, Op.stringOp]
@[go_sem] theorem str_leq (t : TypeId) (a b : ByteArray) : binOp .leq t (.string a) (.string b) = pure (.bool (!Op.bytesLess b.toList a.toList)) := by
  rw [← less_tri]
  simp [binOp, Op.stringOp]
@[go_sem] theorem str_geq (t : TypeId) (a b : ByteArray) : binOp .geq t (.string a) (.string b) = pure (.bool (!Op.bytesLess a.toList b.toList)) := by
  simp [binOp, Op.stringOp]

/-! ### append(bytes, string...) beside other rows of bytes -/
section
variable {P : Program}
theorem append_str_at (w : World) (base : Nat) (t u ty e : TypeId) (i : TypeInfo) (ht : P.underlying t = some (.slice e)) (hu : P.underlying u = some .string) (hi : P.info? e = some i) (hz : i.zero = some (.int .u8 0))
    (hsize : i.size = 1) (hby : i.bytes = 1) (v : Value) (n : Nat) (xs : List Value) (hown : w.ownsRow base e 1 v n xs) (s : ByteArray) (h63 : n + s.size ≤ maxLen) (hbytes : n + s.size ≤ 140737488355328)
    {v' : Value} {w' : World} (hrun : (Builtin.append_ #[t, u] ty #[v, .string s]).run P w = .ok v' w') : v'.ownBlock = v.ownBlock ∨ v'.ownBlock = some w.heap.size := by
  have hxl : xs.length = n := by simpa using hown.1
  have hsmall : n + s.size ≤ 9223372036854775807 := by simp only [maxLen] at h63; omega
  rcases hown.2 with ⟨rfl, rfl⟩ | ⟨g, cap, cur, rfl, hbg, hg, hnc, hcm, hcs, htake⟩
  · have hx : xs = [] := List.eq_nil_of_length_eq_zero hxl
    subst hx
    by_cases hm : s.size = 0
    · have hf := Lib.run_firstCells_string (P := P) w 1 s
      rw [hm] at hf
      simp [Builtin.append_, run_underlying ht, run_underlying hu, sizeOf, typeInfo, hi, hsize, Builtin.lenOf, hm, hf] at hrun
      obtain ⟨rfl, _⟩ := hrun
      exact .inl rfl
    · have hr := run_append_nil_string (P := P) w t u ty e i (.int .u8 0) ht hu hi hz s (by omega) (by omega) (by rw [hby]; omega)
      rw [hr] at hrun
      injection hrun with h1 _
      subst h1
      exact .inr rfl
  · by_cases hroom : n + s.size ≤ cap
    · have hcs' : cur.size = cap := by simpa using hcs
      have hr := Lib.run_append_room_string (P := P) w t u ty e i ht hu hi hsize g n cap cur hg s hroom (by omega)
      rw [hr] at hrun
      injection hrun with h1 _
      subst h1
      exact .inl rfl
    · have holds : ∀ j u, xs[j]? = some u → w.cell? ((⟨g, 0, none⟩ : Addr).add j) = some u := hown.cells (g := g) rfl
      have hr := Lib.run_append_grow_string (P := P) w t u ty e i (.int .u8 0) ht hu hi hz ⟨g, 0, none⟩ n cap xs (by rw [hsize]; simpa using hxl) holds s (by omega) (by omega) (by rw [hby]; exact growslice_fits (by omega) (by omega))
      rw [hr] at hrun
      injection hrun with h1 _
      subst h1
      exact .inr rfl

theorem R_append_str {ops : Array Oper} {rest : List Oper} {o : Oper} {a : Act} {Q : Exit → Act → World → Prop} {w0 W : World} (base : Nat) (hgd : o.guard = none) (s x : Operand) (t u e : TypeId)
    (ho : o.op = .call { callee := .builtin .append, args := #[s, x], argTypes := #[t, u] })
    (ht : P.underlying t = some (.slice e)) (hu : P.underlying u = some .string) (hinfo : (P.info? e).map (fun i => (i.zero, i.size, i.bytes)) = some (some (.int .u8 0), 1, 1))
    (v : Value) (xs : List Int) (y : ByteArray) (ok : Nat → Prop) (hs : a.eval s = v) (hx : a.eval x = .string y) (hfresh : ∀ k, W.heap.size ≤ k → ok k)
    (HO : Kd.R (Kd.int .u8) e W base ok v xs) (HB : Below base w0 W) (hbase : base ≤ W.heap.size) (hl : xs.length + y.size ≤ 140737488355328)
    (h : ∀ v1 w1, Kd.R (Kd.int .u8) e w1 base ok v1 (xs ++ bytesOf y) → Below base w0 w1 → W.grownBy w1 v.ownBlock → (v1.ownBlock = v.ownBlock ∨ ∃ b, v1.ownBlock = some b ∧ W.heap.size ≤ b) → wpList P ops Q rest (a.put o.dst v1) w1) :
    wpList P ops Q (o :: rest) a W := by
  obtain ⟨i0, hi, hzz⟩ := Option.map_eq_some_iff.1 hinfo
  simp only [Prod.mk.injEq] at hzz
  obtain ⟨hz0, hz1, hz2⟩ := hzz
  refine wpList_plain hgd fun K hK => ?_
  have hown := Kd.own_of_R HO
  have h63 : xs.length + y.size ≤ maxLen := by simp only [maxLen]; omega
  obtain ⟨v', w', hr, h2, h3, h4⟩ := Lib.run_append_own_string (P := P) W base t u o.type e i0 ht hu hi hz0 hz1 hz2 v xs.length (nums .u8 xs) hown y h63 hl hbase
  have hat := append_str_at (P := P) W base t u o.type e i0 ht hu hi hz0 hz1 hz2 v xs.length (nums .u8 xs) hown y h63 hl hr
  unfold Oper.wp execOp
  simp only [ho, resolve, invoke, builtin, Sem.run_bind, Sem.run_pure, Result.andThen_ok, List.map_toArray, List.map_cons, List.map_nil, hs, hx, hr]
  have hl2 : (xs ++ bytesOf y).length = xs.length + y.size := by rw [List.length_append, bytesOf_length]
  have hc : nums .u8 (xs ++ bytesOf y) = nums .u8 xs ++ Lib.strCells y := by
    rw [nums_append]
    congr 1
    simp [nums, bytesOf, Lib.strCells]
  refine hK _ _ (h v' w' ?_ (HB.grown h3 hbase (own_base hown)) h3 ?_)
  · refine Kd.R_of_own (h1 := fun _ => rfl) (by rw [hl2]; show World.ownsRow w' base e 1 v' (xs.length + y.size) (nums .u8 (xs ++ bytesOf y)); rw [hc]; exact h2) ?_
    intro k hk
    rcases hat with hat | hat
    · exact HO.1 k (hat ▸ hk)
    · rw [hat] at hk
      injection hk with hk
      subst hk
      exact hfresh _ (Nat.le_refl _)
  · rcases hat with hat | hat
    · exact .inl hat
    · exact .inr ⟨_, hat, Nat.le_refl _⟩
end

end Go.Proofs.YtfbdenlpoidnjaaW.Opens

/-! ### short names for what long texts say often -/
namespace Go.Proofs.YtfbdenlpoidnjaaW.PrintWords
abbrev Kd.Ra := @Kd.R_alloc
abbrev Kd.Rn := @Kd.R_drewN
abbrev Kd.Rd := @Kd.R_drew
abbrev Kd.Rb := @Kd.R_below
abbrev bkn := @blk_drewN
abbrev bkd := @blk_drew
abbrev bka := @blk_alloc
abbrev bkb := @blk_below
abbrev bls := @below_set
theorem As {p : Prop} (h : p) : Aside0 p := ⟨h⟩
abbrev bla := @below_alloc
abbrev bln := @pw_below_drewN
abbrev bld := @below_drew1
end Go.Proofs.YtfbdenlpoidnjaaW.PrintWords
