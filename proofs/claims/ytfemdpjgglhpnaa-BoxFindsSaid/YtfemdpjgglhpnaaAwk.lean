/- The examples of the chapter hold, at any time. -/
import Derived.Test.YtfemdpjgglhpnaaPuD
import Derived.Test.YtfemdpjgglhpnaaPuE
import Derived.Outline
import Derived.WalkSpells
import Derived.Lib.Hide
set_option linter.unusedVariables false
set_option linter.unusedSimpArgs false
namespace Go.Proofs.Ytfemdpjgglhpnaa.P
open Go.RowKit Go.Proofs.YtfemdpjgglhpnaaW.PrintWords Go.Proofs.YtfemdpjgglhpnaaW.PrintLast Go.Proofs.YtfemdpjgglhpnaaW.PrintMore

def tHead : ByteArray := ⟨#[104, 101, 97, 100]⟩
def tSign : ByteArray := ⟨#[115, 105, 103, 110]⟩
def tCode : ByteArray := ⟨#[99, 111, 100, 101]⟩
def tImgh : ByteArray := ⟨#[105, 109, 103, 104]⟩
def exL : List S37 := [⟨tHead, [], []⟩, ⟨tSign, [7], []⟩]
def exB : List Int := [0, 0, 0, 8, 104, 101, 97, 100, 0, 0, 0, 9, 115, 105, 103, 110, 7]
def exF : List S37 := [⟨tCode, [], []⟩, ⟨tHead, [], [⟨tImgh, [1], []⟩, ⟨tImgh, [], []⟩]⟩]
theorem exW : writeP exL = (exB, 0) := by decide +kernel
theorem exP1 : parseP exB = (exL, 0) := by kernel_rfl
theorem exP2 : parseP [0, 0, 0, 8, 104, 101, 97, 100, 0] = ([], 7) := by kernel_rfl
theorem exP3 : parseP [0, 0, 0, 7, 104, 101, 97, 100] = ([], 20) := by kernel_rfl
theorem exFi : findR [tHead, tImgh] exF = (tImgh, [1], [], true) := by
  simp [findR, findP, firstP, exF, tlB, tHead, tCode, tImgh]
theorem exC : cntL exL = 2 := by decide +kernel
theorem litu8 (W : World) (xs : List Int) (hm : xs.length ≤ 9223372036854775807) : (Kd.int .u8).C (W.alloc (.cells (nums .u8 xs).toArray 5)) (some ⟨W.heap.size, 0, none⟩) xs.length xs := by
  obtain ⟨A, n, hA, hr⟩ := own_reads (own_lit W 0 5 .u8 xs (Nat.zero_le _) hm)
  injection hA with h1 h2 h3
  subst h1
  exact Kd.C_of_reads (enc := Value.int .u8) (d := (0 : Int)) (h1 := fun _ => rfl) hr
theorem lit37 (W : World) (cs : List Value) (xs : List S37) (hrep : Reps (k37.K W) 3 xs cs) (hm : xs.length ≤ 1000) : k37.C (W.alloc (.cells cs.toArray 37)) (some ⟨W.heap.size, 0, none⟩) xs.length xs := by
  have ho := World.ownsRow_lit (base := 0) (e := 37) (size := 3) W cs.toArray xs.length (Nat.zero_le _) (by simp [maxLen]; omega) (by simpa using hrep.1)
  obtain ⟨A, c, hA, hr⟩ := own_reads_row (R := k37.K (W.alloc (.cells cs.toArray 37))) ho (by simpa using hrep.imp_ (fun p c hp => k37.K_below (below_alloc (Below.refl _ _) _) hp)) rfl
  injection hA with h1 h2 h3
  subst h1
  exact hr
theorem litS (W : World) (xs : List ByteArray) (hm : xs.length ≤ 1000) : Kd.string.C (W.alloc (.cells (xs.map Value.string).toArray 9)) (some ⟨W.heap.size, 0, none⟩) xs.length xs := by
  have ho := World.ownsRow_lit (base := 0) (e := 9) (size := 1) W (xs.map Value.string).toArray xs.length (Nat.zero_le _) (by simp [maxLen]; omega) (by simp)
  obtain ⟨A, c, hA, hr⟩ := own_reads_row (R := Kd.string.K (W.alloc (.cells (xs.map Value.string).toArray 9))) ho (show Reps (fun (x : ByteArray) (cs : List Value) => cs = [Value.string x]) 1 xs (encs Value.string xs) from Kd.reps_scalar xs) rfl
  injection hA with h1 h2 h3
  subst h1
  exact hr
theorem exByt : Byt exB ∧ Byt [0, 0, 0, 8, 104, 101, 97, 100, 0] ∧ Byt [0, 0, 0, 7, 104, 101, 97, 100] := by
  refine ⟨?_, ?_, ?_⟩ <;> (intro z hz; simp [exB] at hz; omega)
theorem T15 (W : World) (A : Option Addr) (c : Nat) (h : k37.C W A 2 exL) (hc : 2 ≤ c) : Calls Try.prog 15 #[.slice A 2 c] W fun e w' => ∃ v : Value, e = .returned (.tuple #[v, .int .i64 0]) ∧ Kd.R (Kd.int .u8) 5 w' W.heap.size (fun _ => True) v exB ∧ Below W.heap.size W w' := by
  obtain ⟨k, hk⟩ := (write_ev exL (by rw [exC]; omega) (by decide +kernel)).rounds
  rw [exW] at hk
  exact box_Write.calls k A c exL exB 0 W h hc hk
theorem T19a (W : World) (A : Option Addr) (c : Nat) (h : (Kd.int .u8).C W A 17 exB) (hc : 17 ≤ c) : Calls Try.prog 19 #[.slice A 17 c] W fun e w' => ∃ v : Value, e = .returned (.tuple #[v, .int .i64 0]) ∧ Kd.R k37 37 w' W.heap.size (fun _ => True) v exL ∧ Below W.heap.size W w' := by
  obtain ⟨k, hk⟩ := (parse_ev exB exByt.1 (by decide)).rounds
  rw [exP1] at hk
  exact box_Parse.calls k A c exB exL 0 W h hc hk
theorem T19b (W : World) (A : Option Addr) (c : Nat) (h : (Kd.int .u8).C W A 9 [0, 0, 0, 8, 104, 101, 97, 100, 0]) (hc : 9 ≤ c) : Calls Try.prog 19 #[.slice A 9 c] W fun e w' => ∃ v : Value, e = .returned (.tuple #[v, .int .i64 7]) ∧ Kd.R k37 37 w' W.heap.size (fun _ => True) v [] ∧ Below W.heap.size W w' := by
  obtain ⟨k, hk⟩ := (parse_ev [0, 0, 0, 8, 104, 101, 97, 100, 0] exByt.2.1 (by decide)).rounds
  rw [exP2] at hk
  exact box_Parse.calls k A c [0, 0, 0, 8, 104, 101, 97, 100, 0] [] 7 W h hc hk
theorem T19c (W : World) (A : Option Addr) (c : Nat) (h : (Kd.int .u8).C W A 8 [0, 0, 0, 7, 104, 101, 97, 100]) (hc : 8 ≤ c) : Calls Try.prog 19 #[.slice A 8 c] W fun e w' => ∃ v : Value, e = .returned (.tuple #[v, .int .i64 20]) ∧ Kd.R k37 37 w' W.heap.size (fun _ => True) v [] ∧ Below W.heap.size W w' := by
  obtain ⟨k, hk⟩ := (parse_ev [0, 0, 0, 7, 104, 101, 97, 100] exByt.2.2 (by decide)).rounds
  rw [exP3] at hk
  exact box_Parse.calls k A c [0, 0, 0, 7, 104, 101, 97, 100] [] 20 W h hc hk
theorem T22 (W : World) (A : Option Addr) (c : Nat) (B : Option Addr) (d : Nat) (h : k37.C W A 2 exF) (hc : 2 ≤ c) (h' : Kd.string.C W B 2 [tHead, tImgh]) (hd : 2 ≤ d) : Calls Try.prog 22 #[.slice A 2 c, .slice B 2 d] W fun e w' => ∃ (v1 : Value) (Z : Option Addr) (z : Nat), e = .returned (.tuple #[.agg #[.string tImgh, v1, .slice Z 0 z], .bool true]) ∧ Kd.R (Kd.int .u8) 5 w' W.heap.size (fun _ => True) v1 [1] ∧ Below W.heap.size W w' := by
  obtain ⟨k, hk⟩ := (find_ev [tHead, tImgh] exF (by decide) (by decide +kernel)).rounds
  rw [exFi] at hk
  exact (box_Find.calls k A c exF B d [tHead, tImgh] tImgh [1] [] true W h hc h' hd hk).mono fun e w' ⟨v1, v2, he, h1, h2, hb⟩ => by
    obtain ⟨Z, z, e2⟩ := Kd.R_slice h2
    subst e2
    exact ⟨v1, Z, z, he, h1, hb⟩
theorem T9 (W : World) : Calls Try.prog 9 #[.string ⟨#[104, 101, 97, 100]⟩] W fun e w' => e = .returned (.bool true) ∧ Drawn0 W w' := box_Super.calls tHead true W (by rw [super_f]; rfl)
theorem T11a (W : World) : Calls Try.prog 11 #[.string ⟨#[99, 111, 100, 101]⟩] W fun e w' => e = .returned (.bool true) ∧ Drawn0 W w' := box_Known.calls tCode true W (by rw [known_f]; rfl)
theorem T11b (W : World) : Calls Try.prog 11 #[.string ⟨#[102, 105, 108, 101]⟩] W fun e w' => e = .returned (.bool false) ∧ Drawn0 W w' := box_Known.calls _ false W (by rw [known_f]; rfl)
theorem T17 (W : World) (A : Option Addr) (c : Nat) (h : k37.C W A 2 exL) (hc : 2 ≤ c) : Calls Try.prog 17 #[.slice A 2 c] W fun e w' => e = .returned (.int .i64 2) ∧ Below W.heap.size W w' := by
  obtain ⟨k, hk⟩ := (count_ev exL (by rw [exC]; omega)).rounds
  rw [exC] at hk
  exact box_Count.calls k A c exL 2 W h hc hk
theorem lit1 (W : World) (x : Int) : (Kd.int .u8).C (W.alloc (.cells #[.int .u8 x] 5)) (some ⟨W.heap.size, 0, none⟩) 1 [x] := litu8 W [x] (by simp)
theorem exL_C (w : World) : k37.C ((w.alloc (.cells #[.int .u8 7] 5)).alloc (.cells #[.string tHead, .slice none 0 0, .slice none 0 0, .string tSign, .slice (some ⟨w.heap.size, 0, none⟩) 1 1, .slice none 0 0] 37)) (some ⟨w.heap.size + 1, 0, none⟩) 2 exL := by
  have hr : Reps (k37.K (w.alloc (.cells #[.int .u8 7] 5))) 3 exL [.string tHead, .slice none 0 0, .slice none 0 0, .string tSign, .slice (some ⟨w.heap.size, 0, none⟩) 1 1, .slice none 0 0] :=
    ((Reps.none _ _).snoc (p := (⟨tHead, [], []⟩ : S37)) (k37_mk _ ⟨tHead, [], []⟩ (Nat.le_refl _) (Kd.C_nil _ _) (Nat.le_refl _) (Kd.C_nil _ _)) rfl).snoc (p := (⟨tSign, [7], []⟩ : S37)) (k37_mk _ ⟨tSign, [7], []⟩ (Nat.le_refl _) (lit1 w 7) (Nat.le_refl _) (Kd.C_nil _ _)) rfl
  have h := lit37 (w.alloc (.cells #[.int .u8 7] 5)) _ exL hr (by decide)
  rw [show (w.alloc (.cells #[.int .u8 7] 5)).heap.size = w.heap.size + 1 by simp] at h
  exact h
theorem exF_C (w : World) : k37.C (((w.alloc (.cells #[.int .u8 1] 5)).alloc (.cells #[.string tImgh, .slice (some ⟨w.heap.size, 0, none⟩) 1 1, .slice none 0 0, .string tImgh, .slice none 0 0, .slice none 0 0] 37)).alloc (.cells #[.string tCode, .slice none 0 0, .slice none 0 0, .string tHead, .slice none 0 0, .slice (some ⟨w.heap.size + 1, 0, none⟩) 2 2] 37)) (some ⟨w.heap.size + 2, 0, none⟩) 2 exF := by
  have hr1 : Reps (k37.K (w.alloc (.cells #[.int .u8 1] 5))) 3 [⟨tImgh, [1], []⟩, ⟨tImgh, [], []⟩] [.string tImgh, .slice (some ⟨w.heap.size, 0, none⟩) 1 1, .slice none 0 0, .string tImgh, .slice none 0 0, .slice none 0 0] :=
    ((Reps.none _ _).snoc (p := (⟨tImgh, [1], []⟩ : S37)) (k37_mk _ ⟨tImgh, [1], []⟩ (Nat.le_refl _) (lit1 w 1) (Nat.le_refl _) (Kd.C_nil _ _)) rfl).snoc (p := (⟨tImgh, [], []⟩ : S37)) (k37_mk _ ⟨tImgh, [], []⟩ (Nat.le_refl _) (Kd.C_nil _ _) (Nat.le_refl _) (Kd.C_nil _ _)) rfl
  have h1 := lit37 (w.alloc (.cells #[.int .u8 1] 5)) _ _ hr1 (by decide)
  rw [show (w.alloc (.cells #[.int .u8 1] 5)).heap.size = w.heap.size + 1 by simp] at h1
  have hr2 : Reps (k37.K ((w.alloc (.cells #[.int .u8 1] 5)).alloc (.cells #[.string tImgh, .slice (some ⟨w.heap.size, 0, none⟩) 1 1, .slice none 0 0, .string tImgh, .slice none 0 0, .slice none 0 0] 37))) 3 exF [.string tCode, .slice none 0 0, .slice none 0 0, .string tHead, .slice none 0 0, .slice (some ⟨w.heap.size + 1, 0, none⟩) 2 2] :=
    ((Reps.none _ _).snoc (p := (⟨tCode, [], []⟩ : S37)) (k37_mk _ ⟨tCode, [], []⟩ (Nat.le_refl _) (Kd.C_nil _ _) (Nat.le_refl _) (Kd.C_nil _ _)) rfl).snoc (p := (⟨tHead, [], [⟨tImgh, [1], []⟩, ⟨tImgh, [], []⟩]⟩ : S37)) (k37_mk _ ⟨tHead, [], [⟨tImgh, [1], []⟩, ⟨tImgh, [], []⟩]⟩ (Nat.le_refl _) (Kd.C_nil _ _) (Nat.le_refl _) h1) rfl
  have h2 := lit37 ((w.alloc (.cells #[.int .u8 1] 5)).alloc (.cells #[.string tImgh, .slice (some ⟨w.heap.size, 0, none⟩) 1 1, .slice none 0 0, .string tImgh, .slice none 0 0, .slice none 0 0] 37)) _ exF hr2 (by decide)
  rw [show ((w.alloc (.cells #[.int .u8 1] 5)).alloc (.cells #[.string tImgh, .slice (some ⟨w.heap.size, 0, none⟩) 1 1, .slice none 0 0, .string tImgh, .slice none 0 0, .slice none 0 0] 37)).heap.size = w.heap.size + 2 by simp] at h2
  exact h2
theorem exS (w : World) : Kd.string.C (w.alloc (.cells #[.string tHead, .string tImgh] 9)) (some ⟨w.heap.size, 0, none⟩) 2 [tHead, tImgh] := litS w [tHead, tImgh] (by decide)
theorem exZ (w : World) : w.heap.size + 2 + 1 = ((((w.alloc (.cells #[.int .u8 1] 5)).alloc (.cells #[.string tImgh, .slice (some ⟨w.heap.size, 0, none⟩) 1 1, .slice none 0 0, .string tImgh, .slice none 0 0, .slice none 0 0] 37)).alloc (.cells #[.string tCode, .slice none 0 0, .slice none 0 0, .string tHead, .slice none 0 0, .slice (some ⟨w.heap.size + 1, 0, none⟩) 2 2] 37))).heap.size := by simp
theorem exS2 (w : World) : Kd.string.C ((((w.alloc (.cells #[.int .u8 1] 5)).alloc (.cells #[.string tImgh, .slice (some ⟨w.heap.size, 0, none⟩) 1 1, .slice none 0 0, .string tImgh, .slice none 0 0, .slice none 0 0] 37)).alloc (.cells #[.string tCode, .slice none 0 0, .slice none 0 0, .string tHead, .slice none 0 0, .slice (some ⟨w.heap.size + 1, 0, none⟩) 2 2] 37)).alloc (.cells #[.string tHead, .string tImgh] 9)) (some ⟨w.heap.size + 2 + 1, 0, none⟩) 2 [tHead, tImgh] := by
  rw [exZ w]
  exact exS _
theorem strL (l : List Int) (m : List UInt8) (h : (strOfNums l).data.toList = m) : ((strOfNums l).toList == m) = true ∧ ((strOfNums l).toList != m) = false := by
  rw [tlB, h]; simp
set_option maxHeartbeats 8000000 in
set_option maxRecDepth 1000000 in
theorem awake_walk (w : World) : Calls Try.prog 13 #[] w fun e w' => e = .returned (.bool true) ∧ Below w.heap.size w w' := by
  have HB0 := Aside0.mk (below_alloc (below_alloc (Below.refl w.heap.size w) (.cells #[.int .u8 7] 5)) (.cells #[.string tHead, .slice none 0 0, .slice none 0 0, .string tSign, .slice (some ⟨w.heap.size, 0, none⟩) 1 1, .slice none 0 0] 37))
  have HL := Aside0.mk (exL_C w)
  obtain ⟨q1, q2⟩ := strL exB [0, 0, 0, 8, 104, 101, 97, 100, 0, 0, 0, 9, 115, 105, 103, 110, 7] (by kernel_rfl)
  obtain ⟨q3, q4⟩ := strL [7] [7] (by kernel_rfl)
  obtain ⟨q5, q6⟩ := strL [1] [1] (by kernel_rfl)
  obtain ⟨s1, hs1⟩ : ∃ s, s = strOfNums exB := ⟨_, rfl⟩
  obtain ⟨s2, hs2⟩ : ∃ s, s = strOfNums [7] := ⟨_, rfl⟩
  obtain ⟨s3, hs3⟩ : ∃ s, s = strOfNums [1] := ⟨_, rfl⟩
  rw [← hs1] at q1 q2
  rw [← hs2] at q3 q4
  rw [← hs3] at q5 q6
  have H1 := Lib.hid hs1
  have H2 := Lib.hid hs2
  have H3 := Lib.hid hs3
  have n1 : ((⟨#[115, 105, 103, 110]⟩ : ByteArray).toList == ([115, 105, 103, 110] : List UInt8)) = true := by rw [tlB]; rfl
  have n2 : ((⟨#[115, 105, 103, 110]⟩ : ByteArray).toList != ([115, 105, 103, 110] : List UInt8)) = false := by rw [tlB]; rfl
  clear hs1 hs2 hs3
  go_enter Try.func13, Try.ntmps13
  go_wp2_with (first | (go_at_call 15; (with_reducible refine (T15 _ _ 2 ?c1 (Nat.le_refl _)).mono ?_); (case c1 => exact HL.out); rintro e w1 ⟨v1, rfl, hR, hb⟩; obtain ⟨A1, k1, e1, hk1, hC1⟩ := Kd.R_reads hR; have e1' : v1 = .slice A1 17 k1 := e1; subst e1'; have HC1 : Aside0 (17 ≤ k1 ∧ (Kd.int .u8).C w1 A1 17 exB) := ⟨hk1, hC1⟩; have HB1 := Aside0.mk (below_then HB0.out HB0.out.size hb); clear hR hb e1 hk1 hC1) | (go_at_call 19; (with_reducible refine (T19a _ A1 k1 HC1.out.2 HC1.out.1).mono ?_); rintro e w2 ⟨v2, rfl, hR, hb⟩; obtain ⟨A2, k2, e2, hk2, hC2⟩ := Kd.R_reads hR; have e2' : v2 = .slice A2 2 k2 := e2; subst e2'; have HC2 : Aside0 (2 ≤ k2 ∧ k37.C w2 A2 2 exL) := ⟨hk2, hC2⟩; have HB2 := Aside0.mk (below_then HB1.out HB1.out.size hb); have HC12 := Aside0.mk (Kd.C_below HC1.out.2 hb); have HD2 : Aside0 ((Kd.int .u8).C (w2.alloc (.cells #[.int .u8 0, .int .u8 0, .int .u8 0, .int .u8 8, .int .u8 104, .int .u8 101, .int .u8 97, .int .u8 100, .int .u8 0] 5)) (some ⟨w2.heap.size, 0, none⟩) 9 [0, 0, 0, 8, 104, 101, 97, 100, 0]) := ⟨litu8 w2 [0, 0, 0, 8, 104, 101, 97, 100, 0] (by decide)⟩; clear hR hb e2 hk2 hC2) | (go_at_call 19; (with_reducible refine (T19b _ _ 9 HD2.out (Nat.le_refl _)).mono ?_); rintro e w3 ⟨v3, rfl, hR, hb⟩; have HB3 := Aside0.mk (below_then (below_alloc HB2.out _) (below_alloc HB2.out _).size hb); have HC13 := Aside0.mk (Kd.C_below (Kd.C_alloc HC12.out _) hb); have HC23 := Aside0.mk (Kd.C_below (Kd.C_alloc HC2.out.2 _) hb); have HD3 : Aside0 ((Kd.int .u8).C (w3.alloc (.cells #[.int .u8 0, .int .u8 0, .int .u8 0, .int .u8 7, .int .u8 104, .int .u8 101, .int .u8 97, .int .u8 100] 5)) (some ⟨w3.heap.size, 0, none⟩) 8 [0, 0, 0, 7, 104, 101, 97, 100]) := ⟨litu8 w3 [0, 0, 0, 7, 104, 101, 97, 100] (by decide)⟩; clear hR hb) | (go_at_call 19; (with_reducible refine (T19c _ _ 8 HD3.out (Nat.le_refl _)).mono ?_); rintro e w4 ⟨v4, rfl, hR, hb⟩; have HB4 := Aside0.mk (below_then (below_alloc HB3.out _) (below_alloc HB3.out _).size hb); have HC14 := Aside0.mk (Kd.C_below (Kd.C_alloc HC13.out _) hb); have HC24 := Aside0.mk (Kd.C_below (Kd.C_alloc HC23.out _) hb); clear hR hb; have hcv1 : (convert 26 9 (.slice A1 17 k1)).run Try.prog w4 = .ok (.string s1) w4 := (by rw [H1.out]; exact Kd.C_string Try.underlying26 Try.underlying5 Try.underlying9 HC14.out); obtain ⟨ad, A21, c21, A22, c22, ea, hx0, hx1, hx2, p1, p2, p3, p4⟩ := at_T37 HC24.out 1 (by decide) (by decide); subst ea; have z0 : w4.cell? ⟨ad.block, ad.off + 3, none⟩ = some (.string ⟨#[115, 105, 103, 110]⟩) := hx0; have z1 : w4.cell? ⟨ad.block, ad.off + 3 + 1, none⟩ = some (.slice A21 1 c21) := hx1; have z1' : w4.cell? ⟨ad.block, ad.off + 4, none⟩ = some (.slice A21 1 c21) := hx1; have hcv2 : (convert 26 9 (.slice A21 1 c21)).run Try.prog w4 = .ok (.string s2) w4 := (by rw [H2.out]; exact Kd.C_string Try.underlying26 Try.underlying5 Try.underlying9 p2); have HF := Aside0.mk (exF_C w4); have HF2 := Aside0.mk (Kd.C_alloc HF.out (.cells #[.string tHead, .string tImgh] 9)); have HS := Aside0.mk (exS2 w4); have HB5 := Aside0.mk (below_alloc (below_alloc (below_alloc (below_alloc HB4.out (.cells #[.int .u8 1] 5)) (.cells #[.string tImgh, .slice (some ⟨w4.heap.size, 0, none⟩) 1 1, .slice none 0 0, .string tImgh, .slice none 0 0, .slice none 0 0] 37)) (.cells #[.string tCode, .slice none 0 0, .slice none 0 0, .string tHead, .slice none 0 0, .slice (some ⟨w4.heap.size + 1, 0, none⟩) 2 2] 37)) (.cells #[.string tHead, .string tImgh] 9)); have HC25 := Aside0.mk (Kd.C_alloc (Kd.C_alloc (Kd.C_alloc (Kd.C_alloc HC24.out (.cells #[.int .u8 1] 5)) (.cells #[.string tImgh, .slice (some ⟨w4.heap.size, 0, none⟩) 1 1, .slice none 0 0, .string tImgh, .slice none 0 0, .slice none 0 0] 37)) (.cells #[.string tCode, .slice none 0 0, .slice none 0 0, .string tHead, .slice none 0 0, .slice (some ⟨w4.heap.size + 1, 0, none⟩) 2 2] 37)) (.cells #[.string tHead, .string tImgh] 9)); clear hx0 hx1 hx2 p1 p2 p3 p4) | (go_at_call 22; (with_reducible refine (T22 _ _ 2 _ 2 ?c1 (Nat.le_refl _) ?c2 (Nat.le_refl _)).mono ?_); (case c1 => exact HF2.out); (case c2 => exact HS.out); rintro e w6 ⟨v61, Z6, z6, rfl, hR, hb⟩; obtain ⟨A6, k6, e6, hk6, hC6⟩ := Kd.R_reads hR; have e6' : v61 = .slice A6 1 k6 := e6; subst e6'; have HB6 := Aside0.mk (below_then HB5.out HB5.out.size hb); have HC26 := Aside0.mk (Kd.C_below HC25.out hb); have hcv3 : (convert 26 9 (.slice A6 1 k6)).run Try.prog (w6.alloc (.cells #[.string tImgh, .slice A6 1 k6, .slice Z6 0 z6] 37)) = .ok (.string s3) _ := (by rw [H3.out]; exact Kd.C_string Try.underlying26 Try.underlying5 Try.underlying9 (Kd.C_alloc hC6 _)); clear hR hb e6 hk6 hC6) | (go_at_call 9; (with_reducible refine (T9 _).mono ?_); rintro e w' ⟨rfl, ⟨nd, rfl⟩⟩) | (go_at_call 11; (with_reducible refine (T11a _).mono ?_); rintro e w' ⟨rfl, ⟨nd, rfl⟩⟩) | (go_at_call 11; (with_reducible refine (T11b _).mono ?_); rintro e w' ⟨rfl, ⟨nd, rfl⟩⟩) | (go_at_call 17; (with_reducible refine (T17 _ (some ad) k2 ?c1 HC2.out.1).mono ?_); (case c1 => exact (by repeat (first | exact HC26.out | (with_reducible refine Kd.C_alloc ?_ _) | (with_reducible refine Kd.C_drewN ?_ _) | (with_reducible refine Kd.C_drew ?_)))); rintro e w7 ⟨rfl, hb⟩; have HB7 := Aside0.mk (below_then (show Below w.heap.size w _ by repeat (first | exact HB6.out | apply below_alloc | apply pw_below_drewN | apply below_drew)) (show w.heap.size ≤ _ from Below.size (show Below w.heap.size w _ by repeat (first | exact HB6.out | apply below_alloc | apply pw_below_drewN | apply below_drew))) hb); clear hb))
  go_ret
  exact ⟨rfl, HB7.out⟩
def waveletlaw45_awake.f : Option Bool := some true
theorem waveletlaw45_awake.calls (r : Bool) (w : World) (h : waveletlaw45_awake.f = some r) :
    Calls Try.prog 13 #[] w fun e w' => e = .returned (.bool r) ∧ Below w.heap.size w w' := by
  obtain rfl := Option.some.inj h
  exact awake_walk w
end Go.Proofs.Ytfemdpjgglhpnaa.P
