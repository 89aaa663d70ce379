/- What the arguments of the laws open to: trees of boxes, at every fuel. -/
import Derived.Test.YtfemdpjgglhpnaaPx0
import Derived.Test.YtfemdpjgglhpnaaWOpens
import Derived.KernelRfl
namespace Go.Proofs.Ytfemdpjgglhpnaa.P
open Go.RowKit Go.Proofs.YtfemdpjgglhpnaaW.PrintWords Go.Proofs.YtfemdpjgglhpnaaW.Opens
set_option linter.unusedVariables false
theorem opens9 : Opens Try.prog 9 Kd.string (fun x => x.size ≤ 140737488351232) := opens_string Try.underlying9
theorem opens5 : Opens Try.prog 5 (Kd.int .u8) (fun x => (Lit.int .u8 x).wf = true) := opens_int Try.underlying5
theorem opens26 : Opens Try.prog 26 (Kd.slice 5 (Kd.int .u8)) (fun x => x.length * 1 ≤ 140737488351232 ∧ ∀ z ∈ x, ((Lit.int .u8 z).wf = true)) := Opens.of fun fuel => opens_slice Try.underlying26 (by kernel_rfl) (by kernel_rfl) (opens5 fuel)
mutual
/-- What holds of a box that an argument leads to. -/
def G37 : S37 → Prop
  | ⟨t, p, l⟩ => t.size ≤ 140737488351232 ∧ (p.length * 1 ≤ 140737488351232 ∧ ∀ z ∈ p, (Lit.int .u8 z).wf = true) ∧ (l.length * 64 ≤ 140737488351232 ∧ GL l)
def GL : List S37 → Prop
  | [] => True
  | b :: r => G37 b ∧ GL r
end
theorem GL_all : ∀ {l : List S37}, (∀ z ∈ l, G37 z) → GL l
  | [], _ => by rw [GL]; trivial
  | b :: r, h => by
    rw [GL]
    exact ⟨h b List.mem_cons_self, GL_all (fun z hz => h z (List.mem_cons_of_mem _ hz))⟩
theorem GL_mem : ∀ {l : List S37}, GL l → ∀ z ∈ l, G37 z
  | b :: r, h, z, hz => by
    rw [GL] at h
    rcases List.mem_cons.1 hz with rfl | hz
    · exact h.1
    · exact GL_mem h.2 z hz
theorem F37_k37 {w : World} {x : S37} {cs : List Value} (h : (F37 k37).K w x cs) : k37.K w x cs := by
  obtain ⟨_, _, rfl, rfl, ⟨_, _, rfl, ⟨A1, c1, rfl, l1, g1⟩, ⟨A2, c2, rfl, l2, g2⟩⟩⟩ := h
  exact k37_mk w x l1 g1 l2 g2
theorem opensBoth : ∀ fuel, OpensAt Try.prog fuel 37 k37 G37 ∧ OpensAt Try.prog fuel 24 (Kd.slice 37 k37) (fun x => x.length * 64 ≤ 140737488351232 ∧ ∀ z ∈ x, G37 z)
  | 0 => ⟨opens_zero, opens_zero⟩
  | fuel + 1 => by
    obtain ⟨h1, h2⟩ := opensBoth fuel
    refine ⟨?_, opens_slice Try.underlying24 (by kernel_rfl) (by kernel_rfl) h1⟩
    have h : OpensAt Try.prog (fuel + 1) 37 (F37 k37) G37 := opens_struct (g := fun a => ⟨a.1, a.2.1, a.2.2⟩) Try.underlying37 (by kernel_rfl) (opens_cons rfl (by kernel_rfl) (opens9 fuel) (opens_cons rfl (by kernel_rfl) (opens26 fuel) (opens_last rfl (by kernel_rfl) h2))) (fun _ => rfl) (fun a h => by
      rw [G37]
      exact ⟨h.1, h.2.1, h.2.2.1, GL_all h.2.2.2⟩)
    intro H enc w cs x hx hw
    obtain ⟨a, hK, hG⟩ := h _ enc w cs x hx hw
    exact ⟨a, F37_k37 hK, hG⟩
theorem opens24 : Opens Try.prog 24 (Kd.slice 37 k37) (fun x => x.length * 64 ≤ 140737488351232 ∧ ∀ z ∈ x, G37 z) := fun fuel => (opensBoth fuel).2
theorem opens35 : Opens Try.prog 35 (Kd.slice 9 Kd.string) (fun x => x.length * 16 ≤ 140737488351232 ∧ ∀ z ∈ x, (z.size ≤ 140737488351232)) := Opens.of fun fuel => opens_slice Try.underlying35 (by kernel_rfl) (by kernel_rfl) (opens9 fuel)
end Go.Proofs.Ytfemdpjgglhpnaa.P
