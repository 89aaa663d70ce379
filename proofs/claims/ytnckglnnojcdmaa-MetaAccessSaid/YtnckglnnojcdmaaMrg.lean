/- What meta.Merge answers, in plain terms. -/
import Derived.Test.YtnckglnnojcdmaaDec
import Derived.Maps.StringElems
import Derived.Maps.OwnOps
set_option linter.unusedVariables false
set_option linter.unusedSimpArgs false
namespace Go.Proofs.Ytnckglnnojcdmaa.P
open Go.RowKit Go.Proofs.YtnckglnnojcdmaaW.PrintWords Go.Proofs.YtnckglnnojcdmaaW.PrintLast Go.Proofs.YtnckglnnojcdmaaW.PrintMore

/-! ### the map of values, in plain terms -/
def noS : ByteArray := ByteArray.empty
/-- The value of the last entry with a key; d if there is none. -/
def valL : List S42 → ByteArray → ByteArray → ByteArray
  | [], d, _ => d
  | x :: l, d, key => valL l (if (x.f0.toList == key.toList) = true then x.f1 else d) key
/-- How many keys of the second list are new, beside those of the first one. -/
def cntL : List S42 → List S42 → Nat
  | _, [] => 0
  | seen, x :: l => (if (seen.any fun y => y.f0.toList == x.f0.toList) = true then 0 else 1) + cntL (x :: seen) l
def pickK : List S42 → List S42 → ByteArray
  | [], [] => noS
  | x :: _, [] => x.f0
  | [], y :: _ => y.f0
  | x :: _, y :: _ => if lessS y.f0 x.f0 = true then y.f0 else x.f0
def dropK (key : ByteArray) : List S42 → List S42
  | [] => []
  | x :: l => if (x.f0.toList == key.toList) = true then l else x :: l
def mrgL (V : ByteArray → ByteArray) : Nat → List S42 → List S42 → List S42
  | 0, _, _ => []
  | n + 1, a, b => if (a.isEmpty && b.isEmpty) = true then [] else ⟨pickK a b, V (pickK a b)⟩ :: mrgL V n (dropK (pickK a b) a) (dropK (pickK a b) b)
def mergeP (a b : List S42) : List S42 × Int :=
  if checkP a = 0 then if checkP b = 0 then if 64 < cntL [] (a ++ b) then ([], 5) else (mrgL (valL (a ++ b) noS) (a.length + b.length) a b, 0) else ([], checkP b) else ([], checkP a)
def meta_Merge.f (l0 l1 : List S42) : Option (List S42 × Int) := some (mergeP l0 l1)

/-! ### the map of values, as the model reads it -/
def keyE (s : ByteArray) : Lit := .string s.data.toList
def valE (s : ByteArray) : DataW Nat := .lit (.string s.data.toList)
def putE (D : DataW Nat) (x : S42) : DataW Nat := D.put (keyE x.f0) (valE x.f1)
def foldE (L : List S42) : DataW Nat := L.foldl putE (.map [])
theorem foldE_snoc (L : List S42) (x : S42) : foldE (L ++ [x]) = putE (foldE L) x := by unfold foldE; rw [List.foldl_append]; rfl
theorem keyE_lit (s : ByteArray) : WideAt.IsKeyLit (keyE s) := by
  unfold keyE
  first | trivial | exact .string _ | simp [WideAt.IsKeyLit]
theorem keyE_eq {a b : ByteArray} : keyE a = keyE b ↔ (a.toList == b.toList) = true := by
  unfold keyE
  rw [beq_iff_eq, ByteArray.toList_eq, ByteArray.toList_eq]
  constructor
  · intro h; injection h
  · intro h; rw [h]
theorem at_fold (key : ByteArray) (z : DataW Nat) : ∀ (L : List S42) (D : DataW Nat) (d : ByteArray), Maps.IsMap D → D.atKey (keyE key) z = valE d → (L.foldl putE D).atKey (keyE key) z = valE (valL L d key)
  | [], D, d, _, h => h
  | x :: l, D, d, hD, h => by
    simp only [List.foldl_cons, valL]
    refine at_fold key z l (putE D x) _ (hD.put _ _) ?_
    by_cases hk : (x.f0.toList == key.toList) = true
    · rw [if_pos hk]
      have e := keyE_eq.2 hk
      unfold putE
      rw [e]
      exact Maps.atKey_put_same hD (keyE_lit key) _ _
    · rw [if_neg hk]
      unfold putE
      rw [Maps.atKey_put_other (fun e => hk (keyE_eq.1 e.symm))]
      exact h
theorem size_fold : ∀ (L : List S42) (D : DataW Nat) (seen : List S42), Maps.Tidy D → (∀ key, Maps.has D (keyE key) = seen.any fun y => y.f0.toList == key.toList) → Maps.size (L.foldl putE D) = Maps.size D + cntL seen L
  | [], D, seen, _, _ => rfl
  | x :: l, D, seen, hD, h => by
    simp only [List.foldl_cons, cntL]
    have ht : Maps.Tidy (putE D x) := hD.put (keyE_lit _) _
    rw [size_fold l (putE D x) (x :: seen) ht (fun key => ?_)]
    · unfold putE
      rw [Maps.size_put hD, h]
      cases (seen.any fun y => y.f0.toList == x.f0.toList) with
      | true => simp
      | false => simp; omega
    · simp only [List.any_cons]
      by_cases hk : (x.f0.toList == key.toList) = true
      · rw [hk, Bool.true_or]
        unfold putE
        rw [keyE_eq.2 hk]
        exact Maps.has_put_same hD.isMap (keyE_lit key) _
      · rw [Bool.eq_false_iff.2 hk, Bool.false_or, ← h]
        unfold putE
        exact Maps.has_put_other (fun e => hk (keyE_eq.1 e.symm)) _
theorem size_foldE (L : List S42) : Maps.size (foldE L) = cntL [] L := by
  have := size_fold L (.map []) [] Maps.tidy_empty (fun key => rfl)
  unfold foldE
  rw [this]
  simp [Maps.size]
theorem map_law : Maps.Keyed Try.prog 9 := Maps.string_keyed Try.underlying9
theorem zero9 (w : World) : (zeroValue 9).run Try.prog w = .ok (.string ByteArray.empty) w := by kernel_rfl
theorem map_look {w : World} {B n : Nat} {L : List S42} (h : w.ownsMap Try.prog 9 (plainElem Try.prog 9) B n (foldE L)) {key : ByteArray} (hk : key.size ≤ maxLen) :
    (Instr.lookup 49 (.map (some B)) (.string key) false).run Try.prog w = .ok (.string (valL L noS key)) w := by
  obtain ⟨v, ps, hrun, hv⟩ := h.lookup map_law Try.underlying49 (zero9 w) (plainElem_string Try.underlying9 (s := ByteArray.empty) (by simp [maxLen])) (WideMaps.keyOf_string_mk Try.underlying9 hk)
  obtain ⟨s, rfl, hz, _⟩ := plainElem_string_inv Try.underlying9 hv
  have e := at_fold key (valE noS) L (.map []) noS Maps.isMap_empty rfl
  have e2 := congrArg Prod.fst hz
  have e3 : (foldE L).atKey (keyE key) (valE noS) = valE s := e2
  have e4 : valE (valL L noS key) = valE s := e.symm.trans e3
  have e5 : valL L noS key = s := by
    unfold valE at e4
    injection e4 with e4
    injection e4 with e4
    exact ByteArray.ext (Array.toList_inj.1 e4)
  rw [hrun, e5]
theorem map_ne {w : World} {B n m : Nat} {L : List S42} {base : Nat} {e : TypeId} {size : Nat} {v : Value} {xs : List Value} (h : w.ownsMap Try.prog 9 (plainElem (H := Nat) Try.prog 9) B n (foldE L)) (hv : w.ownsRow base e size v m xs) : some B ≠ v.ownBlock := by
  obtain ⟨es, clock, hb, _⟩ := h
  rcases hv.2 with ⟨rfl, _⟩ | ⟨g, cap, cur, rfl, _, hh, _⟩
  · simp [Value.ownBlock]
  · intro he
    have : B = g := by simpa [Value.ownBlock] using he
    subst this
    rw [hb] at hh
    cases hh
theorem map_drew {w : World} {B n : Nat} {D : DataW Nat} (h : w.ownsMap Try.prog 9 (plainElem Try.prog 9) B n D) (m : Nat) : (w.drewN m).ownsMap Try.prog 9 (plainElem Try.prog 9) B n D := h
theorem map_neR {w : World} {B n : Nat} {L : List S42} {base : Nat} {e : TypeId} {v : Value} {o : List S42} {ok : Nat → Prop} (h : w.ownsMap Try.prog 9 (plainElem (H := Nat) Try.prog 9) B n (foldE L)) (hv : k42.R e w base ok v o) : some B ≠ v.ownBlock := by
  obtain ⟨_, inner, hown, _⟩ := hv
  exact map_ne h hown
theorem check_sizes : ∀ (l : List S42) (p : Option ByteArray), checkL p l = 0 → ∀ x ∈ l, x.f0.size ≤ 64 ∧ x.f1.size ≤ 4096
  | [], _, _, x, hx => by cases hx
  | y :: l, p, h, x, hx => by
    unfold checkL at h
    by_cases hk : (keyOk y.f0 && valueOk y.f1) = true
    · rw [if_pos hk] at h
      simp only [Bool.and_eq_true] at hk
      have tl : checkL (some y.f0) l = 0 := by
        cases p with
        | none => exact h
        | some q =>
          simp only at h
          split at h
          · cases h
          · split at h
            · cases h
            · exact h
      rcases List.mem_cons.1 hx with rfl | hx
      · have h1 := hk.1
        have h2 := hk.2
        unfold keyOk at h1
        unfold valueOk at h2
        simp only [Bool.and_eq_true, decide_eq_true_eq] at h1 h2
        exact ⟨h1.1.2, h2.1⟩
      · exact check_sizes l _ tl x hx
    · rw [if_neg hk] at h
      cases h
theorem check_bd {l : List S42} (h : checkP l = 0) : l.length ≤ 64 ∧ ∀ x ∈ l, x.f0.size ≤ 64 ∧ x.f1.size ≤ 4096 := by
  unfold checkP at h
  split at h
  · cases h
  · exact ⟨by omega, check_sizes l none h⟩
/-- Entry i of a list that lies in memory. -/
theorem ent_cells {w : World} {A : Option Addr} {l : List S42} (h : Kd.C k42 w A l.length l) (i : Nat) (hi : i < l.length) : ∃ ad : Addr, A = some ad ∧ w.cell? (ad.add (i * 2)) = some (.string l[i].f0) ∧ w.cell? ⟨(ad.add (i * 2)).block, (ad.add (i * 2)).off + 1, none⟩ = some (.string l[i].f1) := by
  obtain ⟨ad, e, h0, h1⟩ := at_T42 h (i : Int) (by omega) (by omega)
  rw [Int.toNat_natCast] at h0 h1
  have hr := rd_nat l i hi
  rw [hr] at h0 h1
  exact ⟨ad, e, h0, h1⟩
theorem mrg_step (V : ByteArray → ByteArray) {n : Nat} {a b : List S42} {i k i' k' : Nat} {key : ByteArray} (hne : i < a.length ∨ k < b.length) (hn : (a.length - i) + (b.length - k) ≤ n) (hp : pickK (a.drop i) (b.drop k) = key)
    (ha : dropK key (a.drop i) = a.drop i') (hb : dropK key (b.drop k) = b.drop k') : mrgL V n (a.drop i) (b.drop k) = ⟨key, V key⟩ :: mrgL V (n - 1) (a.drop i') (b.drop k') := by
  cases n with
  | zero => omega
  | succ m =>
    have hz : ((a.drop i).isEmpty && (b.drop k).isEmpty) = false := by
      rw [Bool.and_eq_false_iff]
      rcases hne with h | h
      · left; simp; omega
      · right; simp; omega
    simp only [mrgL]
    rw [hz, if_neg (by simp), hp, ha, hb]
    rfl
theorem drop_get {a : List S42} {i : Nat} (h : i < a.length) : a.drop i = a[i] :: a.drop (i + 1) := List.drop_eq_getElem_cons h
theorem drop_end {a : List S42} {i : Nat} (h : ¬ i < a.length) : a.drop i = [] := List.drop_eq_nil_of_le (by omega)
theorem dropK_hit {key : ByteArray} {a : List S42} {i : Nat} (h : i < a.length) (e : (a[i].f0.toList == key.toList) = true) : dropK key (a.drop i) = a.drop (i + 1) := by
  rw [drop_get h]; simp only [dropK]; rw [if_pos e]
theorem dropK_miss {key : ByteArray} {a : List S42} {i : Nat} (h : i < a.length) (e : (a[i].f0.toList == key.toList) = false) : dropK key (a.drop i) = a.drop i := by
  rw [drop_get h]; simp only [dropK]; rw [if_neg (by rw [e]; simp)]
theorem dropK_end {key : ByteArray} {a : List S42} {i : Nat} (h : ¬ i < a.length) : dropK key (a.drop i) = a.drop i := by
  rw [drop_end h]; rfl
theorem pick_a {a b : List S42} {i k : Nat} (h : i < a.length) (hk : ¬ k < b.length) : pickK (a.drop i) (b.drop k) = a[i].f0 := by
  rw [drop_get h, drop_end hk]; rfl
theorem pick_b {a b : List S42} {i k : Nat} (h : ¬ i < a.length) (hk : k < b.length) : pickK (a.drop i) (b.drop k) = b[k].f0 := by
  rw [drop_get hk, drop_end h]; rfl
theorem pick_ab {a b : List S42} {i k : Nat} (h : i < a.length) (hk : k < b.length) (hg : lessS b[k].f0 a[i].f0 = false) : pickK (a.drop i) (b.drop k) = a[i].f0 := by
  rw [drop_get hk, drop_get h]; simp only [pickK]; rw [if_neg (by rw [hg]; simp)]
theorem pick_ba {a b : List S42} {i k : Nat} (h : i < a.length) (hk : k < b.length) (hg : lessS b[k].f0 a[i].f0 = true) : pickK (a.drop i) (b.drop k) = b[k].f0 := by
  rw [drop_get hk, drop_get h]; simp only [pickK]; rw [if_pos hg]
theorem beq_false_of_ne {a b : Int} (h : ¬ a = b) : (a == b) = false := by simpa using h
theorem beq_true_of_eq {a b : Int} (h : a = b) : (a == b) = true := by simpa using h
theorem beq_self (s : ByteArray) : (s.toList == s.toList) = true := by simp
theorem beq_turn {a b : ByteArray} {x : Bool} (h : (a.toList == b.toList) = x) : (b.toList == a.toList) = x := by
  rw [← h]; exact Bool.beq_comm
set_option maxRecDepth 1000000 in
set_option maxHeartbeats 8000000 in
theorem meta_Merge.calls (A0 : Option Addr) (c0 : Nat) (l0 : List S42) (A1 : Option Addr) (c1 : Nat) (l1 : List S42) (r1 : List S42) (r2 : Int) (w : World) (hr0 : Kd.C k42 w A0 l0.length l0) (hc0 : l0.length ≤ c0) (hr1 : Kd.C k42 w A1 l1.length l1) (hc1 : l1.length ≤ c1) (h : meta_Merge.f l0 l1 = some (r1, r2)) :
    Calls Try.prog 21 #[.slice A0 l0.length c0, .slice A1 l1.length c1] w fun e w' => ∃ v0_ : Value, e = .returned (.tuple #[v0_, .int .i64 r2]) ∧ Kd.R k42 42 w' w.heap.size (fun _ => True) v0_ r1 ∧ Below w.heap.size w w' := by
  have h := Option.some.inj h
  unfold mergeP at h
  have HR0 := Aside0.mk hr0
  have HR1 := Aside0.mk hr1
  obtain ⟨ka, hka⟩ := (chk l0).rounds
  have HKA := Lib.hid hka
  clear hr0 hr1 hka
  by_cases ha : checkP l0 = 0
  case neg =>
    rw [if_neg ha] at h
    obtain ⟨rfl, rfl⟩ := Prod.mk.inj h
    have Z2 : (checkP l0 != 0) = true := by simpa using ha
    clear h ha
    go_enter Try.func21, Try.ntmps21
    go_wp2_with (go_at_call 14; (with_reducible refine (meta_Check.calls ka _ _ l0 (checkP l0) _ HR0.out hc0 HKA.out).mono ?_); rintro e w1 ⟨rfl, hb1⟩)
    go_ret2
    exact ⟨_, rfl, Kd.R_nil _ _ _ _ _, hb1⟩
  rw [if_pos ha] at h
  rw [ha] at HKA
  obtain ⟨kb, hkb⟩ := (chk l1).rounds
  have HKB := Lib.hid hkb
  clear hkb
  by_cases hb : checkP l1 = 0
  case neg =>
    rw [if_neg hb] at h
    obtain ⟨rfl, rfl⟩ := Prod.mk.inj h
    have Z2 : (checkP l1 != 0) = true := by simpa using hb
    clear h ha hb
    go_enter Try.func21, Try.ntmps21
    go_wp2_with (first | (go_at_call 14; (with_reducible refine (meta_Check.calls ka _ _ l0 0 _ HR0.out hc0 HKA.out).mono ?_); rintro e w1 ⟨rfl, hb1⟩) | (go_at_call 14; (with_reducible refine (meta_Check.calls kb _ _ l1 (checkP l1) _ (Kd.C_below HR1.out hb1) hc1 HKB.out).mono ?_); rintro e w2 ⟨rfl, hb2⟩))
    go_ret2
    exact ⟨_, rfl, Kd.R_nil _ _ _ _ _, below_then hb1 hb1.size hb2⟩
  rw [if_pos hb] at h
  rw [hb] at HKB
  have ba := check_bd ha
  have bb := check_bd hb
  have HBA := Aside0.mk ba
  have HBB := Aside0.mk bb
  have HH := Lib.hid h
  have hna : (l0.length : Int) ≤ 64 := by have := ba.1; omega
  have hnb : (l1.length : Int) ≤ 64 := by have := bb.1; omega
  have hmm := @run_makeMap Try.prog
  clear h ha hb ba bb
  go_enter Try.func21, Try.ntmps21
  go_wp2_with (first | (go_at_call 14; (with_reducible refine (meta_Check.calls ka _ _ l0 0 _ HR0.out hc0 HKA.out).mono ?_); rintro e w1 ⟨rfl, hb1⟩) | (go_at_call 14; (with_reducible refine (meta_Check.calls kb _ _ l1 0 _ (Kd.C_below HR1.out hb1) hc1 HKB.out).mono ?_); rintro e w2 ⟨rfl, hb2⟩; have HB2 := Aside0.mk (below_then hb1 hb1.size hb2); clear hb1 hb2))
  obtain ⟨B, hB⟩ : ∃ B, B = w2.heap.size := ⟨_, rfl⟩
  have HOM := Aside0.mk (World.ownsMap_made (H := Nat) w2 Try.prog 9 (plainElem Try.prog 9))
  have HBB2 := Aside0.mk (below_alloc HB2.out (.map #[] 0))
  have HBS : Hid (w.heap.size ≤ B) := Lib.hid (by rw [hB]; exact HB2.out.size)
  rw [← hB] at HOM ⊢
  clear hB
  go_loopg [30] (l0.length + 1) (fun kq v30 w' => ∃ i : Nat, v30 = .int .i64 i ∧ Aside0 (i ≤ l0.length ∧ kq + i = l0.length + 1) ∧ Aside0 (w'.ownsMap Try.prog 9 (plainElem Try.prog 9) B i (foldE (l0.take i))) ∧ Aside0 (Below w.heap.size w w'))
  case atStart => exact ⟨0, by first | rfl | simp, ⟨by omega, by omega⟩, HOM, HBB2⟩
  case round =>
    obtain ⟨i, rfl, HI, HM, HB⟩ := hrel
    clear HOM HBB2 HB2
    have hi0 : (0 : Int) ≤ (i : Int) := by omega
    have hi2 : (i : Int) ≤ 64 := by have := HI.out; omega
    by_cases hi : i < l0.length
    · have hi' : (i : Int) < (l0.length : Int) := by omega
      obtain ⟨ad, rfl, q0, q1⟩ := ent_cells HR0.out i hi
      replace q0 := pw_cell_below HB.out q0
      replace q1 := pw_cell_below HB.out q1
      obtain ⟨x, hx⟩ : ∃ x, x = l0[i] := ⟨_, rfl⟩
      have hxs := HBA.out.2 x (by rw [hx]; exact List.getElem_mem hi)
      rw [← hx] at q0 q1
      have hkey : keyOf Try.prog 9 (.string x.f0) = some (keyE x.f0) := WideMaps.keyOf_string_mk Try.underlying9 (by simp only [maxLen]; omega)
      have hval : plainElem (H := Nat) Try.prog 9 (.string x.f1) = some (valE x.f1, []) := plainElem_string Try.underlying9 (by simp only [maxLen]; omega)
      have htk : foldE (l0.take (i + 1)) = putE (foldE (l0.take i)) x := by rw [List.take_succ_eq_append_getElem hi, foldE_snoc, hx]
      have HTK := Lib.hid htk
      have HK := Lib.hid hkey
      have HV := Lib.hid hval
      have HMA := Aside0.mk (HM.out.alloc (.cells #[.string x.f0, .string x.f1] 42))
      have HBA2 := Aside0.mk (below_alloc HB.out (.cells #[.string x.f0, .string x.f1] 42))
      have HII := Lib.hid hi
      clear hx hxs hkey hval htk hi
      go_wp2_with (at_mapUpdate; refine wpList_mapUpdate_own _ rfl _ _ _ 49 rfl 9 9 map_law Try.underlying49 _ B i _ rfl HMA.out (by unfold maxLen; omega) _ _ _ rfl rfl HK.out _ [] HV.out ?_; intro w5 hown5 hgrow5)
      go_roundg (gk - 1)
      case measure => have := HI.out; have := HII.out; omega
      case rel => exact ⟨i + 1, by first | rfl | simp, ⟨by have := HII.out; omega, by have := HI.out; have := HII.out; omega⟩, ⟨by rw [HTK.out]; exact hown5⟩, ⟨HBA2.out.grown hgrow5 HBA2.out.size (fun j hj => by injection hj with hj; rw [← hj]; exact HBS.out)⟩⟩
    · have hi' : ¬ (i : Int) < (l0.length : Int) := by omega
      have HII := Lib.hid hi
      clear hi
      go_wp2
      have HM0 : Aside0 (wr.ownsMap Try.prog 9 (plainElem Try.prog 9) B (l0.length + 0) (foldE (l0 ++ l1.take 0))) := ⟨by
        have h := HM.out
        have e : i = l0.length := by have := HI.out; have := HII.out; omega
        rw [e, List.take_of_length_le (Nat.le_refl _)] at h
        rw [List.take_zero, List.append_nil]
        exact h⟩
      obtain ⟨wo, rfl⟩ : ∃ wo : World, wo = wr := ⟨_, rfl⟩
      go_loopg [42] (l1.length + 1) (fun kq v42 w' => ∃ j : Nat, v42 = .int .i64 j ∧ Aside0 (j ≤ l1.length ∧ kq + j = l1.length + 1) ∧ Aside0 (w'.ownsMap Try.prog 9 (plainElem Try.prog 9) B (l0.length + j) (foldE (l0 ++ l1.take j))) ∧ Aside0 (Below w.heap.size w w'))
      case atStart => exact ⟨0, by first | rfl | simp, ⟨by omega, by omega⟩, HM0, HB⟩
      case round =>
        obtain ⟨j, rfl, HJ, HMj, HBj⟩ := hrel
        clear HM HM0 HI HB
        have hj0 : (0 : Int) ≤ (j : Int) := by omega
        have hj2 : (j : Int) ≤ 64 := by have := HJ.out; omega
        by_cases hj : j < l1.length
        · have hj' : (j : Int) < (l1.length : Int) := by omega
          obtain ⟨ad, rfl, q0, q1⟩ := ent_cells HR1.out j hj
          replace q0 := pw_cell_below HBj.out q0
          replace q1 := pw_cell_below HBj.out q1
          obtain ⟨x, hx⟩ : ∃ x, x = l1[j] := ⟨_, rfl⟩
          have hxs := HBB.out.2 x (by rw [hx]; exact List.getElem_mem hj)
          rw [← hx] at q0 q1
          have hkey : keyOf Try.prog 9 (.string x.f0) = some (keyE x.f0) := WideMaps.keyOf_string_mk Try.underlying9 (by simp only [maxLen]; omega)
          have hval : plainElem (H := Nat) Try.prog 9 (.string x.f1) = some (valE x.f1, []) := plainElem_string Try.underlying9 (by simp only [maxLen]; omega)
          have htk : foldE (l0 ++ l1.take (j + 1)) = putE (foldE (l0 ++ l1.take j)) x := by rw [List.take_succ_eq_append_getElem hj, ← List.append_assoc, foldE_snoc, hx]
          have HTK := Lib.hid htk
          have HK := Lib.hid hkey
          have HV := Lib.hid hval
          have HMA := Aside0.mk (HMj.out.alloc (.cells #[.string x.f0, .string x.f1] 42))
          have HBA2 := Aside0.mk (below_alloc HBj.out (.cells #[.string x.f0, .string x.f1] 42))
          have HJJ := Lib.hid hj
          clear hx hxs hkey hval htk hj
          go_wp2_with (at_mapUpdate; refine wpList_mapUpdate_own _ rfl _ _ _ 49 rfl 9 9 map_law Try.underlying49 _ B (l0.length + j) _ rfl HMA.out (by unfold maxLen; omega) _ _ _ rfl rfl HK.out _ [] HV.out ?_; intro w5 hown5 hgrow5)
          go_roundg (gk - 1)
          case measure => have := HJ.out; have := HJJ.out; omega
          case rel => exact ⟨j + 1, by first | rfl | simp, ⟨by have := HJJ.out; omega, by have := HJ.out; have := HJJ.out; omega⟩, ⟨by rw [HTK.out]; exact hown5⟩, ⟨HBA2.out.grown hgrow5 HBA2.out.size (fun j hj => by injection hj with hj; rw [← hj]; exact HBS.out)⟩⟩
        · have hj' : ¬ (j : Int) < (l1.length : Int) := by omega
          have HMA : Aside0 (wr.ownsMap Try.prog 9 (plainElem Try.prog 9) B (l0.length + l1.length) (foldE (l0 ++ l1))) := ⟨by
            have h := HMj.out
            have e : j = l1.length := by have := HJ.out; omega
            rw [e, List.take_of_length_le (Nat.le_refl _)] at h
            exact h⟩
          clear hj HMj
          have hsz := size_foldE (l0 ++ l1)
          obtain ⟨N, hN⟩ : ∃ N, N = cntL [] (l0 ++ l1) := ⟨_, rfl⟩
          have hh := HH.out
          rw [← hN] at hsz hh
          have HSZ := Lib.hid hsz
          clear hsz
          by_cases hc : 64 < N
          · rw [if_pos hc] at hh
            obtain ⟨rfl, rfl⟩ := Prod.mk.inj hh
            have D1 := decide_eq_true (show (64 : Int) < (N : Int) by omega)
            have D2 := decide_eq_true hc
            clear hh hN
            go_wp2_with ((with_reducible refine gate_builtin (b := .len) (xs := #[.tmp 52]) rfl ?_); refine wpList_len_own _ rfl (.tmp 52) 49 rfl 9 9 Try.underlying49 _ B _ _ rfl HMA.out ?_; rw [HSZ.out])
            go_ret2
            exact ⟨_, rfl, Kd.R_nil _ _ _ _ _, HBj.out⟩
          · rw [if_neg hc] at hh
            have D1 := decide_eq_false (show ¬ (64 : Int) < (N : Int) by omega)
            have D2 := decide_eq_false hc
            have HHH := Lib.hid hh
            clear hh hN hc
            go_wp2_with ((with_reducible refine gate_builtin (b := .len) (xs := #[.tmp 52]) rfl ?_); refine wpList_len_own _ rfl (.tmp 52) 49 rfl 9 9 Try.underlying49 _ B _ _ rfl HMA.out ?_; rw [HSZ.out])
            obtain ⟨hr1, rfl⟩ := Prod.mk.inj HHH.out
            obtain ⟨V, hV⟩ : ∃ V, V = valL (l0 ++ l1) noS := ⟨_, rfl⟩
            have hlook : ∀ key : ByteArray, key.size ≤ maxLen → ∀ W : World, W.ownsMap Try.prog 9 (plainElem (H := Nat) Try.prog 9) B (l0.length + l1.length) (foldE (l0 ++ l1)) → ∀ n : Nat, (Instr.lookup 49 (.map (some B)) (.string key) false).run Try.prog (W.drewN n) = .ok (.string (V key)) (W.drewN n) := fun key hk W hW n => by
              rw [hV]
              exact map_look (w := W.drewN n) hW hk
            rw [← hV] at hr1
            have HLOOK := Lib.hid hlook
            have HR1E := Lib.hid hr1
            clear hr1 HHH hV hlook
            obtain ⟨wq, rfl⟩ : ∃ wq : World, wq = wr := ⟨_, rfl⟩
            go_loopg [13, 14, 15] (l0.length + l1.length + 1) (fun kq v13 v14 v15 w' => ∃ (i k n : Nat) (o : List S42), v14 = .int .i64 i ∧ v15 = .int .i64 k ∧ Aside0 (i ≤ l0.length ∧ k ≤ l1.length ∧ l0.length + l1.length + 1 ≤ kq + i + k ∧ (l0.length - i) + (l1.length - k) ≤ n ∧ o ++ mrgL V n (l0.drop i) (l1.drop k) = r1 ∧ o.length ≤ i + k) ∧ Aside0 (w'.ownsMap Try.prog 9 (plainElem Try.prog 9) B (l0.length + l1.length) (foldE (l0 ++ l1))) ∧ Aside0 (Kd.R k42 42 w' w.heap.size (fun _ => True) v13 o) ∧ Aside0 (Below w.heap.size w w'))
            case atStart => exact ⟨0, 0, l0.length + l1.length, [], by first | rfl | simp, by first | rfl | simp, ⟨by omega, by omega, by omega, by omega, by rw [List.drop_zero, List.drop_zero]; exact HR1E.out, by simp⟩, HMA, ⟨Kd.R_nil _ _ _ _ _⟩, HBj⟩
            case round =>
              obtain ⟨i, k, n, o, rfl, rfl, HI, HM, HO, HB⟩ := hrel
              clear HMA HBj
              have hi0 : (0 : Int) ≤ (i : Int) := by omega
              have hk0 : (0 : Int) ≤ (k : Int) := by omega
              have hi2 : (i : Int) ≤ 64 := by have := HI.out; omega
              have hk2 : (k : Int) ≤ 64 := by have := HI.out; omega
              have HOL : Hid ((o.length + 1) * 32 ≤ 140737488355328) := Lib.hid (by have := HI.out; omega)
              have HNE := Aside0.mk (map_neR HM.out HO.out)
              by_cases hi : i < l0.length
              · have hi' : (i : Int) < (l0.length : Int) := by omega
                obtain ⟨adx, rfl, x0, x1⟩ := ent_cells HR0.out i hi
                replace x0 := pw_cell_below HB.out x0
                obtain ⟨x, hx⟩ : ∃ x, x = l0[i] := ⟨_, rfl⟩
                have hxs := HBA.out.2 x (by rw [hx]; exact List.getElem_mem hi)
                rw [← hx] at x0
                by_cases hk : k < l1.length
                · have hk' : (k : Int) < (l1.length : Int) := by omega
                  have hk'' : ¬ (k : Int) = (l1.length : Int) := by omega
                  have hke := beq_false_of_ne hk''
                  obtain ⟨ady, rfl, y0, y1⟩ := ent_cells HR1.out k hk
                  replace y0 := pw_cell_below HB.out y0
                  obtain ⟨y, hy⟩ : ∃ y, y = l1[k] := ⟨_, rfl⟩
                  have hys := HBB.out.2 y (by rw [hy]; exact List.getElem_mem hk)
                  rw [← hy] at y0
                  have SX := beq_self x.f0
                  have SY := beq_self y.f0
                  cases hL : lessS y.f0 x.f0 with
                  | true =>
                    have LL : Op.bytesLess y.f0.toList x.f0.toList = true := hL
                    cases hE : (x.f0.toList == y.f0.toList) with
                    | true =>
                      have EY := beq_turn hE
                      have hst : mrgL V n (l0.drop i) (l1.drop k) = ⟨y.f0, V y.f0⟩ :: mrgL V (n - 1) (l0.drop (i + 1)) (l1.drop (k + 1)) := mrg_step V (Or.inl hi) HI.out.2.2.2.1 (by rw [hy]; exact pick_ba hi hk (by rw [← hx, ← hy]; exact hL)) (dropK_hit hi (by rw [← hx]; exact hE)) (dropK_hit hk (by rw [← hy]; exact SY))
                      have HST := Lib.hid hst
                      have HII := Aside0.mk (And.intro hi hk)
                      clear x1 y1 hst hx hy hi hk
                      have hlk := HLOOK.out y.f0 (by simp only [maxLen]; omega) wr HM.out
                      go_wp2
                      go_quiet (fail)
                      go_wp2_with ((with_reducible refine gate_builtin (b := .append) (xs := #[.tmp 128, .tmp 134]) rfl ?_); at_builtin; go_must (refine Kd.R_append k42 (w0 := w) w.heap.size rfl (.tmp 128) (.tmp 134) 22 42 _ 32 rfl Try.underlying22 info42a rfl (by decide) (by omega) u13 o ⟨y.f0, V y.f0⟩ _ (fun _ => True) (fun _ => False) rfl rfl (k42_mkM _ _ _ ⟨y.f0, V y.f0⟩) (fun _ hk => hk.elim) (fun _ _ => trivial) (Kd.R_drewN HO.out _) (pw_below_drewN HB.out _) (below_size (pw_below_drewN HB.out _)) HOL.out ?_); intro v9 w9 hO9 hB9 hg9 hat9)
                      go_roundg (gk - 1)
                      case measure => have := HI.out; have := HII.out; omega
                      case rel => exact ⟨(i + 1), (k + 1), n - 1, o ++ [⟨y.f0, V y.f0⟩], by first | rfl | simp, by first | rfl | (simp; done) | (simp; omega), ⟨by have := HI.out; have := HII.out; omega, by have := HI.out; have := HII.out; omega, by have := HI.out; have := HII.out; omega, by have := HI.out; have := HII.out; omega, by rw [List.append_assoc, List.singleton_append, ← HST.out]; exact HI.out.2.2.2.2.1, by have := HI.out; rw [List.length_append, List.length_singleton]; omega⟩, ⟨(map_drew HM.out _).kept hg9 HNE.out⟩, ⟨hO9⟩, ⟨hB9⟩⟩
                    | false =>
                      have EY := beq_turn hE
                      have hst : mrgL V n (l0.drop i) (l1.drop k) = ⟨y.f0, V y.f0⟩ :: mrgL V (n - 1) (l0.drop i) (l1.drop (k + 1)) := mrg_step V (Or.inl hi) HI.out.2.2.2.1 (by rw [hy]; exact pick_ba hi hk (by rw [← hx, ← hy]; exact hL)) (dropK_miss hi (by rw [← hx]; exact hE)) (dropK_hit hk (by rw [← hy]; exact SY))
                      have HST := Lib.hid hst
                      have HII := Aside0.mk (And.intro hi hk)
                      clear x1 y1 hst hx hy hi hk
                      have hlk := HLOOK.out y.f0 (by simp only [maxLen]; omega) wr HM.out
                      go_wp2
                      go_quiet (fail)
                      go_wp2_with ((with_reducible refine gate_builtin (b := .append) (xs := #[.tmp 128, .tmp 134]) rfl ?_); at_builtin; go_must (refine Kd.R_append k42 (w0 := w) w.heap.size rfl (.tmp 128) (.tmp 134) 22 42 _ 32 rfl Try.underlying22 info42a rfl (by decide) (by omega) u13 o ⟨y.f0, V y.f0⟩ _ (fun _ => True) (fun _ => False) rfl rfl (k42_mkM _ _ _ ⟨y.f0, V y.f0⟩) (fun _ hk => hk.elim) (fun _ _ => trivial) (Kd.R_drewN HO.out _) (pw_below_drewN HB.out _) (below_size (pw_below_drewN HB.out _)) HOL.out ?_); intro v9 w9 hO9 hB9 hg9 hat9)
                      go_roundg (gk - 1)
                      case measure => have := HI.out; have := HII.out; omega
                      case rel => exact ⟨i, (k + 1), n - 1, o ++ [⟨y.f0, V y.f0⟩], by first | rfl | simp, by first | rfl | (simp; done) | (simp; omega), ⟨by have := HI.out; have := HII.out; omega, by have := HI.out; have := HII.out; omega, by have := HI.out; have := HII.out; omega, by have := HI.out; have := HII.out; omega, by rw [List.append_assoc, List.singleton_append, ← HST.out]; exact HI.out.2.2.2.2.1, by have := HI.out; rw [List.length_append, List.length_singleton]; omega⟩, ⟨(map_drew HM.out _).kept hg9 HNE.out⟩, ⟨hO9⟩, ⟨hB9⟩⟩
                  | false =>
                    have LL : Op.bytesLess y.f0.toList x.f0.toList = false := hL
                    cases hE : (x.f0.toList == y.f0.toList) with
                    | true =>
                      have EY := beq_turn hE
                      have hst : mrgL V n (l0.drop i) (l1.drop k) = ⟨x.f0, V x.f0⟩ :: mrgL V (n - 1) (l0.drop (i + 1)) (l1.drop (k + 1)) := mrg_step V (Or.inl hi) HI.out.2.2.2.1 (by rw [hx]; exact pick_ab hi hk (by rw [← hx, ← hy]; exact hL)) (dropK_hit hi (by rw [← hx]; exact SX)) (dropK_hit hk (by rw [← hy]; exact EY))
                      have HST := Lib.hid hst
                      have HII := Aside0.mk (And.intro hi hk)
                      clear x1 y1 hst hx hy hi hk
                      have hlk := HLOOK.out x.f0 (by simp only [maxLen]; omega) wr HM.out
                      go_wp2
                      go_quiet (fail)
                      go_wp2_with ((with_reducible refine gate_builtin (b := .append) (xs := #[.tmp 128, .tmp 134]) rfl ?_); at_builtin; go_must (refine Kd.R_append k42 (w0 := w) w.heap.size rfl (.tmp 128) (.tmp 134) 22 42 _ 32 rfl Try.underlying22 info42a rfl (by decide) (by omega) u13 o ⟨x.f0, V x.f0⟩ _ (fun _ => True) (fun _ => False) rfl rfl (k42_mkM _ _ _ ⟨x.f0, V x.f0⟩) (fun _ hk => hk.elim) (fun _ _ => trivial) (Kd.R_drewN HO.out _) (pw_below_drewN HB.out _) (below_size (pw_below_drewN HB.out _)) HOL.out ?_); intro v9 w9 hO9 hB9 hg9 hat9)
                      go_roundg (gk - 1)
                      case measure => have := HI.out; have := HII.out; omega
                      case rel => exact ⟨(i + 1), (k + 1), n - 1, o ++ [⟨x.f0, V x.f0⟩], by first | rfl | simp, by first | rfl | (simp; done) | (simp; omega), ⟨by have := HI.out; have := HII.out; omega, by have := HI.out; have := HII.out; omega, by have := HI.out; have := HII.out; omega, by have := HI.out; have := HII.out; omega, by rw [List.append_assoc, List.singleton_append, ← HST.out]; exact HI.out.2.2.2.2.1, by have := HI.out; rw [List.length_append, List.length_singleton]; omega⟩, ⟨(map_drew HM.out _).kept hg9 HNE.out⟩, ⟨hO9⟩, ⟨hB9⟩⟩
                    | false =>
                      have EY := beq_turn hE
                      have hst : mrgL V n (l0.drop i) (l1.drop k) = ⟨x.f0, V x.f0⟩ :: mrgL V (n - 1) (l0.drop (i + 1)) (l1.drop k) := mrg_step V (Or.inl hi) HI.out.2.2.2.1 (by rw [hx]; exact pick_ab hi hk (by rw [← hx, ← hy]; exact hL)) (dropK_hit hi (by rw [← hx]; exact SX)) (dropK_miss hk (by rw [← hy]; exact EY))
                      have HST := Lib.hid hst
                      have HII := Aside0.mk (And.intro hi hk)
                      clear x1 y1 hst hx hy hi hk
                      have hlk := HLOOK.out x.f0 (by simp only [maxLen]; omega) wr HM.out
                      go_wp2
                      go_quiet (fail)
                      go_wp2_with ((with_reducible refine gate_builtin (b := .append) (xs := #[.tmp 128, .tmp 134]) rfl ?_); at_builtin; go_must (refine Kd.R_append k42 (w0 := w) w.heap.size rfl (.tmp 128) (.tmp 134) 22 42 _ 32 rfl Try.underlying22 info42a rfl (by decide) (by omega) u13 o ⟨x.f0, V x.f0⟩ _ (fun _ => True) (fun _ => False) rfl rfl (k42_mkM _ _ _ ⟨x.f0, V x.f0⟩) (fun _ hk => hk.elim) (fun _ _ => trivial) (Kd.R_drewN HO.out _) (pw_below_drewN HB.out _) (below_size (pw_below_drewN HB.out _)) HOL.out ?_); intro v9 w9 hO9 hB9 hg9 hat9)
                      go_roundg (gk - 1)
                      case measure => have := HI.out; have := HII.out; omega
                      case rel => exact ⟨(i + 1), k, n - 1, o ++ [⟨x.f0, V x.f0⟩], by first | rfl | simp, by first | rfl | (simp; done) | (simp; omega), ⟨by have := HI.out; have := HII.out; omega, by have := HI.out; have := HII.out; omega, by have := HI.out; have := HII.out; omega, by have := HI.out; have := HII.out; omega, by rw [List.append_assoc, List.singleton_append, ← HST.out]; exact HI.out.2.2.2.2.1, by have := HI.out; rw [List.length_append, List.length_singleton]; omega⟩, ⟨(map_drew HM.out _).kept hg9 HNE.out⟩, ⟨hO9⟩, ⟨hB9⟩⟩
                · have hk' : ¬ (k : Int) < (l1.length : Int) := by omega
                  have hk'' : (k : Int) = (l1.length : Int) := by have := HI.out; omega
                  have hke := beq_true_of_eq hk''
                  have SX := beq_self x.f0
                  have hst : mrgL V n (l0.drop i) (l1.drop k) = ⟨x.f0, V x.f0⟩ :: mrgL V (n - 1) (l0.drop (i + 1)) (l1.drop k) := mrg_step V (Or.inl hi) HI.out.2.2.2.1 (by rw [hx]; exact pick_a hi hk) (dropK_hit hi (by rw [← hx]; exact SX)) (dropK_end hk)
                  have HST := Lib.hid hst
                  have HII := Aside0.mk (And.intro hi hk)
                  clear x1 hst hx hi hk
                  have hlk := HLOOK.out x.f0 (by simp only [maxLen]; omega) wr HM.out
                  go_wp2
                  go_quiet (fail)
                  go_wp2_with ((with_reducible refine gate_builtin (b := .append) (xs := #[.tmp 128, .tmp 134]) rfl ?_); at_builtin; go_must (refine Kd.R_append k42 (w0 := w) w.heap.size rfl (.tmp 128) (.tmp 134) 22 42 _ 32 rfl Try.underlying22 info42a rfl (by decide) (by omega) u13 o ⟨x.f0, V x.f0⟩ _ (fun _ => True) (fun _ => False) rfl rfl (k42_mkM _ _ _ ⟨x.f0, V x.f0⟩) (fun _ hk => hk.elim) (fun _ _ => trivial) (Kd.R_drewN HO.out _) (pw_below_drewN HB.out _) (below_size (pw_below_drewN HB.out _)) HOL.out ?_); intro v9 w9 hO9 hB9 hg9 hat9)
                  go_roundg (gk - 1)
                  case measure => have := HI.out; have := HII.out; omega
                  case rel => exact ⟨(i + 1), k, n - 1, o ++ [⟨x.f0, V x.f0⟩], by first | rfl | simp, by first | rfl | (simp; done) | (simp; omega), ⟨by have := HI.out; have := HII.out; omega, by have := HI.out; have := HII.out; omega, by have := HI.out; have := HII.out; omega, by have := HI.out; have := HII.out; omega, by rw [List.append_assoc, List.singleton_append, ← HST.out]; exact HI.out.2.2.2.2.1, by have := HI.out; rw [List.length_append, List.length_singleton]; omega⟩, ⟨(map_drew HM.out _).kept hg9 HNE.out⟩, ⟨hO9⟩, ⟨hB9⟩⟩
              · have hi' : ¬ (i : Int) < (l0.length : Int) := by omega
                by_cases hk : k < l1.length
                · have hk' : (k : Int) < (l1.length : Int) := by omega
                  have hk'' : ¬ (k : Int) = (l1.length : Int) := by omega
                  have hke := beq_false_of_ne hk''
                  have hid := decide_eq_false hi'
                  have hid2 := decide_eq_false hi
                  obtain ⟨ady, rfl, y0, y1⟩ := ent_cells HR1.out k hk
                  replace y0 := pw_cell_below HB.out y0
                  obtain ⟨y, hy⟩ : ∃ y, y = l1[k] := ⟨_, rfl⟩
                  have hys := HBB.out.2 y (by rw [hy]; exact List.getElem_mem hk)
                  rw [← hy] at y0
                  have SY := beq_self y.f0
                  have hst : mrgL V n (l0.drop i) (l1.drop k) = ⟨y.f0, V y.f0⟩ :: mrgL V (n - 1) (l0.drop i) (l1.drop (k + 1)) := mrg_step V (Or.inr hk) HI.out.2.2.2.1 (by rw [hy]; exact pick_b hi hk) (dropK_end hi) (dropK_hit hk (by rw [← hy]; exact SY))
                  have HST := Lib.hid hst
                  have HII := Aside0.mk (And.intro hi hk)
                  clear y1 hst hy hi hk
                  have hlk := HLOOK.out y.f0 (by simp only [maxLen]; omega) wr HM.out
                  go_wp2
                  go_quiet (fail)
                  go_wp2_with ((with_reducible refine gate_builtin (b := .append) (xs := #[.tmp 128, .tmp 134]) rfl ?_); at_builtin; go_must (refine Kd.R_append k42 (w0 := w) w.heap.size rfl (.tmp 128) (.tmp 134) 22 42 _ 32 rfl Try.underlying22 info42a rfl (by decide) (by omega) u13 o ⟨y.f0, V y.f0⟩ _ (fun _ => True) (fun _ => False) rfl rfl (k42_mkM _ _ _ ⟨y.f0, V y.f0⟩) (fun _ hk => hk.elim) (fun _ _ => trivial) (Kd.R_drewN HO.out _) (pw_below_drewN HB.out _) (below_size (pw_below_drewN HB.out _)) HOL.out ?_); intro v9 w9 hO9 hB9 hg9 hat9)
                  go_roundg (gk - 1)
                  case measure => have := HI.out; have := HII.out; omega
                  case rel => exact ⟨i, (k + 1), n - 1, o ++ [⟨y.f0, V y.f0⟩], by first | rfl | simp, by first | rfl | (simp; done) | (simp; omega), ⟨by have := HI.out; have := HII.out; omega, by have := HI.out; have := HII.out; omega, by have := HI.out; have := HII.out; omega, by have := HI.out; have := HII.out; omega, by rw [List.append_assoc, List.singleton_append, ← HST.out]; exact HI.out.2.2.2.2.1, by have := HI.out; rw [List.length_append, List.length_singleton]; omega⟩, ⟨(map_drew HM.out _).kept hg9 HNE.out⟩, ⟨hO9⟩, ⟨hB9⟩⟩
                · have hk' : ¬ (k : Int) < (l1.length : Int) := by omega
                  have hfin : o = r1 := by
                    have h := HI.out.2.2.2.2.1
                    rw [drop_end hi, drop_end hk] at h
                    cases n <;> simpa [mrgL] using h
                  subst hfin
                  clear hi hk
                  go_wp2
                  go_ret2
                  exact ⟨_, rfl, HO.out, HB.out⟩
end Go.Proofs.Ytnckglnnojcdmaa.P
