/- Of what the print wrote for this claim (Opn): what its texts use. -/
import Derived.Test.YtkejmbnfjjgfnaaVFnExactGuestOKWWords
import Derived.WalkKit
import Derived.ProofKit
import Derived.OpenShut
import Derived.Deep.Slices
namespace Go.Proofs.Ytkejmbnfjjgfnaa.Opn
open Go.RowKit Go.Deep Go.Proofs.YtkejmbnfjjgfnaaW.PrintWords
set_option linter.unusedVariables false
structure Opn {α : Type} (P : Program) (t : TypeId) (d : Kd α) (ok : α → Prop) : Prop where
  sz : P.cellsOf t = d.sz
  op : ∀ {H : Type} {enc : TypeId × Value → H} {W : World} {base : Nat} {spare : Nat → Bool} {held : Bool} {fuel : Nat} {cs : List Value} {x : DataW H × List MemPlace},
    DataW.trod enc P W base spare held fuel t cs = some x → ∃ a, d.K W a cs ∧ ok a

theorem opn_int {P : Program} {t : TypeId} {k : IntKind} (ht : P.underlying t = some (.int k)) (hc : P.cellsOf t = 1) : Opn P t (Kd.int k) (fun n => (Lit.int k n).wf = true) where
  sz := hc
  op h := by
    obtain ⟨n, rfl, _, hw⟩ := DataW.trod_int ht h
    exact ⟨n, rfl, hw⟩
theorem opn_string {P : Program} {t : TypeId} (ht : P.underlying t = some .string) (hc : P.cellsOf t = 1) : Opn P t Kd.string (fun s => s.size ≤ maxLen) where
  sz := hc
  op h := by
    obtain ⟨n, rfl, _, hw⟩ := DataW.trod_string ht h
    exact ⟨n, rfl, hw⟩
theorem opn_slice {α : Type} [Inhabited α] {P : Program} {t e : TypeId} {d : Kd α} {ok : α → Prop} (ht : P.underlying t = some (.slice e)) (hc : P.cellsOf t = 1) (he : Opn P e d ok) :
    Opn P t (Kd.slice e d) (fun l => l.length ≤ maxLen ∧ ∀ x ∈ l, ok x) where
  sz := hc
  op {H enc W base spare held fuel cs x} h := by
    rcases open_slice ht h with ⟨rfl, _⟩ | ⟨a, len, cap, m, n, D, Pl, rfl, hb, hl, hm, hmm, _, hx⟩
    · exact ⟨[], ⟨none, 0, rfl, Nat.le_refl _, Kd.C_nil d W⟩, Nat.zero_le _, by simp⟩
    · have hlm : len ≤ m := by rw [hmm]; split <;> omega
      obtain ⟨f, hf⟩ := choose_lt (α := α) (n := len) (p := fun i y => ok y ∧ ∃ cs', W.cells? base (a.add (i * P.cellsOf e)) (P.cellsOf e) = some cs' ∧ d.K W y cs') (fun i hi => by
        obtain ⟨cs', h1, h2⟩ := hx i (by omega)
        obtain ⟨y, hy, hk⟩ := he.op h2
        exact ⟨y, hk, cs', h1, hy⟩)
      have hlen : ((List.range len).map f).length = len := by simp
      refine ⟨(List.range len).map f, ⟨some a, cap, by rw [hlen], by rw [hlen]; exact hl, ?_⟩, by rw [hlen]; omega, ?_⟩
      · refine ⟨by simp, by rw [hlen]; unfold maxLen at hm; omega, fun hn => ⟨a, rfl, fun j p hj => ?_⟩⟩
        have hjl : j < len := by
          have := (List.getElem?_eq_some_iff.1 hj).1
          rw [hlen] at this; exact this
        have hp : p = f j := by simpa [hjl] using hj.symm
        subst hp
        obtain ⟨_, cs', h1, h2⟩ := hf j hjl
        obtain ⟨_, hl2, hcell⟩ := World.cells?_some h1
        refine ⟨cs', d.K_len h2, h2, fun i u hu => ?_⟩
        have hi : i < P.cellsOf e := by rw [← hl2]; exact (List.getElem?_eq_some_iff.1 hu).1
        have := hcell i hi
        rw [hu] at this
        rw [← this, he.sz]
        rw [Addr.add_add]
      · intro y hy
        obtain ⟨j, hj, rfl⟩ := List.mem_map.1 hy
        exact (hf j (List.mem_range.1 hj)).1

structure OpnF {α : Type} (P : Program) (fs : List Field) (off : Nat) (d : Kd α) (ok : α → Prop) : Prop where
  op : ∀ {H : Type} {enc : TypeId × Value → H} {W : World} {base : Nat} {spare : Nat → Bool} {held : Bool} {cs : List Value},
    (∀ f ∈ fs, ∃ n y, DataW.trod enc P W base spare held n f.type ((cs.drop f.offset).take (P.cellsOf f.type)) = some y) → ∃ a, d.K W a ((cs.drop off).take d.sz) ∧ ok a

theorem opnF_one {α : Type} {P : Program} {f : Field} {off : Nat} {d : Kd α} {ok : α → Prop} (h : Opn P f.type d ok) (ho : f.offset = off) : OpnF P [f] off d ok where
  op hall := by
    obtain ⟨n, y, hy⟩ := hall f (by simp)
    rw [ho, h.sz] at hy
    exact h.op hy
theorem take_two {γ : Type} (l : List γ) (i a b : Nat) : (l.drop i).take (a + b) = (l.drop i).take a ++ (l.drop (i + a)).take b := by
  rw [List.take_add, List.drop_drop]
theorem opnF_cons {α β : Type} {P : Program} {f : Field} {fs : List Field} {off : Nat} {d : Kd α} {d' : Kd β} {ok : α → Prop} {ok' : β → Prop} (h : Opn P f.type d ok) (ho : f.offset = off) (hr : OpnF P fs (off + d.sz) d' ok') :
    OpnF P (f :: fs) off (Kd.pair d d') (fun x => ok x.1 ∧ ok' x.2) where
  op {H enc W base spare held cs} hall := by
    obtain ⟨n, y, hy⟩ := hall f (by simp)
    rw [ho, h.sz] at hy
    obtain ⟨a, ka, oa⟩ := h.op hy
    obtain ⟨b, kb, ob⟩ := hr.op (cs := cs) (fun g hg => hall g (by simp [hg]))
    exact ⟨(a, b), ⟨_, _, take_two cs off d.sz d'.sz, ka, kb⟩, oa, ob⟩
theorem opn_struct {α : Type} {P : Program} {t : TypeId} {fs : Array Field} {d : Kd α} {ok : α → Prop} (ht : P.underlying t = some (.struct fs)) (hc : P.cellsOf t = d.sz) (h : OpnF P fs.toList 0 d ok) : Opn P t d ok where
  sz := hc
  op {H enc W base spare held fuel cs x} hx := by
    obtain ⟨xs, n, _, _, hl, hlen, hf⟩ := DataW.trod_struct ht hx
    obtain ⟨a, ka, oa⟩ := h.op (cs := cs) (W := W) (enc := enc) (base := base) (spare := spare) (held := held) (fun f hf' => by
      obtain ⟨i, hi, rfl⟩ := List.mem_iff_getElem.1 hf'
      have := hf i _ (by rw [← Array.getElem?_toList]; exact List.getElem?_eq_getElem hi)
      have hix : i < xs.length := by rw [hlen]; simpa using hi
      rw [List.getElem?_eq_getElem hix] at this
      exact ⟨n, _, this⟩)
    rw [← hc, ← hl] at ka
    simp only [List.drop_zero, List.take_length] at ka
    exact ⟨a, ka, oa⟩
theorem opn_iso {α β : Type} {P : Program} {t : TypeId} {d : Kd α} {ok : α → Prop} (h : Opn P t d ok) (g : β → α) (inv : α → β) (hg : ∀ a, g (inv a) = a) : Opn P t (Kd.iso d g) (fun b => ok (g b)) where
  sz := h.sz
  op hx := by
    obtain ⟨a, ka, oa⟩ := h.op hx
    refine ⟨inv a, ?_, ?_⟩
    · show d.K _ (g (inv a)) _
      rw [hg]; exact ka
    · show ok (g (inv a))
      rw [hg]; exact oa
end Go.Proofs.Ytkejmbnfjjgfnaa.Opn
