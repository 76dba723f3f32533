/- What laws.FnShots reaches, part 3: the functions as Lean functions, the proofs that the program's functions answer so, and plain laws about them. -/
import Derived.Test.YtniceoohmhjjlaaGreatDoorKFnShots1
import Derived.Test.YtniceoohmhjjlaaGreatDoorKFnShots2
namespace Go.Proofs.YtniceoohmhjjlaaGreatDoor.Q
open Go.RowKit Go.Proofs.YtniceoohmhjjlaaGreatDoor.Ext Go.Proofs.YtniceoohmhjjlaaGreatDoorW.PrintWords Go.Proofs.YtniceoohmhjjlaaGreatDoorW.PrintLast Go.Proofs.YtniceoohmhjjlaaGreatDoorW.PrintMore
attribute [local go_sem] max2_int min2_int max_two min_two max_three min_three max_four min_four   -- for this text's walks alone
open Bool renaming true → tt, false → ff
open Go.Value renaming ownBlock → ob
open Go.Act renaming put → gE
open Go.Addr renaming add → kW
open Go.Instr renaming typeAssert → kP
open Go.Proofs.Tryz renaming func79 → mW, prog → fM, underlying22 → oS, underlying26 → iN, underlying33 → kG, underlying5 → nU, underlying53 → lQ
open Go.Proofs.YtniceoohmhjjlaaGreatDoorW.PrintLast renaming any_of → gD, goesL_ → gU, i32_w → jF, i64_w → iQ, norm_ → jV, one_of → iS, pure_ → gR, take_ofW → hZ
open Go.Proofs.YtniceoohmhjjlaaGreatDoorW.PrintWords renaming add_block → hY, below_alloc → gO, below_drew1 → gA, below_set → iG, below_size → eV, below_step → eZ, blk_below → fB, blk_cell → eY, blk_grown → gW, blk_lt → hO, box_event → fS, cell_far → mA, gate_builtin → kF, gate_callee → fJ, gate_dst → fP, gate_guard → kY, pw_below_drewN → gB
open Go.Proofs.YtniceoohmhjjlaaGreatDoorW.PrintWords.Drawn0 renaming refl → hJ, step → hM
open Go.Proofs.YtniceoohmhjjlaaGreatDoorW.PrintWords.Kd renaming C_below → fE, R_alloc → fY, R_append → lU, R_below → fI, R_drew → fK, R_drewN → fZ, R_far → fR, R_lit → lT, R_lit_step → nB, R_lower → fL, R_ne → gJ, R_reads' → fC, R_slice → fA, at_int → gY, at_string → oP, int → fG, string → gV
open Go.Proofs.YtniceoohmhjjlaaGreatDoorW.PrintWords.Reps renaming none → jD, one → lS
open Go.RowKit.Below renaming refl → fX
open Go.World renaming block_lt_of_cell? → eU, cell?_alloc_lt → kN, drewN → mK
open _root_.Bool renaming eq_false_iff → hN
open _root_.ByteArray renaming empty → iH
open _root_.Int renaming reduceToNat → gX, tdiv → kM, tmod → iO
open _root_.List renaming drop_eq_getElem_cons → hP, drop_of_length_le → iV, map_cons → jY, map_nil → oN, replicate → iJ
open _root_.Nat renaming le_refl → fQ, lt_of_lt_of_le → lZ, ne_of_gt → gT, ne_of_lt → gN
open _root_.Option renaming bind_eq_some_iff → eW
open _root_.Option.some renaming inj → fF, injEq → gC
open _root_.Prod.mk renaming injEq → gP
set_option linter.unusedVariables false
set_option linter.unusedSimpArgs false

set_option linter.unusedVariables false
set_option linter.unusedSimpArgs false
def aY.ints : List ByteArray → List Int → Option (List ByteArray)
  | out, [] => some out
  | out, n :: r => (cJ.f n).bind fun t => if out.length < 8796093022208 then aY.ints (out ++ [t]) r else none
def aY.go : List ByteArray → List Any → Option (List ByteArray)
  | out, [] => some out
  | out, .n n :: r => (cJ.f n).bind fun t => if out.length < 8796093022208 then aY.go (out ++ [t]) r else none
  | out, .s t :: r => if out.length < 8796093022208 then aY.go (out ++ [t]) r else none
  | out, .ss _ l :: r => if out.length + l.length < 8796093022208 then aY.go (out ++ l) r else none
  | out, .ns _ l :: r => (aY.ints out l).bind fun o => aY.go o r
  | _, .b _ :: _ => none
def aY.f (l0 : List Any) : Option ByteArray := (aY.go [] l0).bind fun o => dC.f o (⟨#[32]⟩ : ByteArray)
set_option maxHeartbeats 8000000 in
set_option maxRecDepth 100000 in
theorem aY.calls (A0 : Option Addr) (c0 : Nat) (g : List Any) (r : ByteArray) (w : World) (M : Kd.C kAny w A0 g.length g) (O : g.length ≤ c0) (h : aY.f g = some r) (HS_ : Sims w g := by first | exact HS_ | exact ⟨trivial, trivial⟩ | exact ⟨trivial, trivial, trivial⟩ | exact ⟨trivial, trivial, trivial, trivial⟩ | (simp only [Sims, Sim1]; done) | (subst_vars; simp [Sims, Sim1])) (HTB_ : TryzTab w := by first | exact HTB_ | exact TryzTab.to HTB_ HB.o | exact TryzTab.to HTB_ (by repeat (first | exact HB.o | apply below_alloc | apply pw_below_drewN | apply below_drew1 | refine below_set ?_ (Aside0.o (by assumption))))) :
    Calls fM 46 #[.slice A0 g.length c0] w fun e w' => e = .returned (.string r) ∧ Below w.heap.size w w' := by
 have S := zm M; have b9 := zm O; have HSI := zm HS_; clear M O HS_; have HB := zm (fX w.heap.size w)
 unfold aY.f at h
 obtain ⟨oF, hgo, hjoin⟩ := eW.mp h
 clear h; have HJ := zm hjoin; have HG := zm hgo; clear hjoin hgo
 have htn : ∀ (v : Int) (W : World), (kP (.iface 3 (.int .i64 v)) 20 3 true).run fM W = .ok (.tuple #[.int .i64 v, .bool true]) W := fun v W => by rfl
 have hts : ∀ (v : ByteArray) (W : World), (kP (.iface 9 (.string v)) 20 3 true).run fM W = .ok (.tuple #[.int .i64 0, .bool false]) W := fun v W => by rfl
 have htt : ∀ (v : ByteArray) (W : World), (kP (.iface 9 (.string v)) 20 9 true).run fM W = .ok (.tuple #[.string v, .bool true]) W := fun v W => by rfl
 have hl1 : ∀ (A : Option Addr) (n c : Nat) (W : World), (kP (.iface 33 (.slice A n c)) 20 3 true).run fM W = .ok (.tuple #[.int .i64 0, .bool false]) W := fun A n c W => by rfl
 have hl2 : ∀ (A : Option Addr) (n c : Nat) (W : World), (kP (.iface 33 (.slice A n c)) 20 9 true).run fM W = .ok (.tuple #[.string ⟨#[]⟩, .bool false]) W := fun A n c W => by rfl
 have hl3 : ∀ (A : Option Addr) (n c : Nat) (W : World), (kP (.iface 33 (.slice A n c)) 20 33 true).run fM W = .ok (.tuple #[.slice A n c, .bool true]) W := fun A n c W => by rfl
 have hi1 : ∀ (A : Option Addr) (n c : Nat) (W : World), (kP (.iface 23 (.slice A n c)) 20 3 true).run fM W = .ok (.tuple #[.int .i64 0, .bool false]) W := fun A n c W => by rfl
 have hi2 : ∀ (A : Option Addr) (n c : Nat) (W : World), (kP (.iface 23 (.slice A n c)) 20 9 true).run fM W = .ok (.tuple #[.string ⟨#[]⟩, .bool false]) W := fun A n c W => by rfl
 have hi3 : ∀ (A : Option Addr) (n c : Nat) (W : World), (kP (.iface 23 (.slice A n c)) 20 33 true).run fM W = .ok (.tuple #[.slice none 0 0, .bool false]) W := fun A n c W => by rfl
 have hi4 : ∀ (A : Option Addr) (n c : Nat) (W : World), (kP (.iface 23 (.slice A n c)) 20 23 true).run fM W = .ok (.tuple #[.slice A n c, .bool true]) W := fun A n c W => by rfl
 have HLN := zm (show g.length ≤ 9223372036854775807 from S.o.2.1)
 go_enter Tryz.func46, Tryz.ntmps46
 go_wp2_with (first
  | ((with_reducible refine fP (N := 12) rfl ?_); refine lT gV _ 9 ?hg (N := 12) ?hd (xs := ([] : List ByteArray)) (inner := []) (ok := fun _ => True) (okp := fun _ => True) ?hr ?hp (fun _ hk => hk) trivial (fX _ _) (fQ _) (by simp) ?_; (case hd => rfl); (case hg => rfl); (case hr => first | (go_simp; done) | (go_simp; rfl)); (case hp => exact (jD _ _)); intro b5 w2 T hb hg_ hnew_; clear hg_ hnew_; refine zG2 (fL T (eV ((by repeat (with_reducible first | exact HB.o | apply gO | apply gB | apply gA))))) (eZ ((by repeat (with_reducible first | exact HB.o | apply gO | apply gB | apply gA))) hb) ?_; clear HB; intro Zb HB; clear hb T))
 go_loopg [3, 15] g.length (fun kq U a8 w' => ∃ (xs : List ByteArray) (j : Int), a8 = .int .i64 j ∧ Aside0 (0 ≤ j ∧ j.toNat ≤ g.length ∧ g.length - j.toNat ≤ kq) ∧ Aside0 (aY.go xs (g.drop j.toNat) = some oF) ∧ Aside0 (Kd.R gV 9 w' w.heap.size (fun _ => True) U xs) ∧ Aside0 (Below w.heap.size w w'))
 case atStart => exact ⟨[], 0, zr, ⟨by simp⟩, ⟨by simpa using HG.o⟩, ⟨zlR Zb.o⟩, ⟨(by repeat (with_reducible first | exact HB.o | apply gO | apply gB | apply gA))⟩⟩
 case round =>
  clear HG
  try clear p2
  obtain ⟨xs, j, rfl, HM, HG, Za, HB⟩ := hrel
  by_cases E : j < (g.length : Int)
  rotate_left
  ·have F : decide (j < (g.length : Int)) = false := decide_eq_false E
   have ex : xs = oF := by
    have hg := HG.o
    rw [iV (by omega)] at hg
    simpa [aY.go] using hg
   subst ex; clear E HG
   obtain ⟨V, X, Y⟩ := fA Za.o
   subst Y
   go_wp2_with (first
    | ((with_reducible refine fJ (f := 76) rfl ?_); refine gU (some 58) rfl rfl Tryz.func76 (by kernel_rfl) rfl #[.slice V xs.length X, .string (⟨#[32]⟩ : ByteArray)] rfl (by (try simp only [List.map_toArray, jY, oN]); first | done | rfl) ?_; (with_reducible refine (dC.calls _ _ xs (⟨#[32]⟩ : ByteArray) r _ ?_ ?_ HJ.o).mono ?_); exact zC ((fC Za.o).2.2); exact (fC Za.o).2.1; rintro e c2 ⟨rfl, hb⟩; refine ⟨_, rfl, ?_⟩; have a := zm (eZ ((by repeat (with_reducible first | exact HB.o | apply gO | apply gB | apply gA))) hb); clear HB; have HB := a; clear a hb))
   go_ret
   exact ⟨rfl, (by repeat (with_reducible first | exact HB.o | apply gO | apply gB | apply gA))⟩
  have F := decide_eq_true E
  have h0j : 0 ≤ j := HM.o.1
  have hjl : j.toNat < g.length := by omega
  have WJ : Aside0 (wrap64 (j + 1) = j + 1) := ⟨by unfold wrap64; have := HLN.o; omega⟩
  have HK := zm (show (j + 1).toNat ≤ g.length ∧ 0 ≤ j + 1 ∧ (j + 1).toNat = j.toNat + 1 from ⟨by omega, by omega, by omega⟩); have hg := HG.o
  rw [hP hjl] at hg
  obtain ⟨u, Z, hx162_0⟩ := any_at S.o j.toNat hjl g[j.toNat] (List.getElem?_eq_getElem hjl)
  have hsim := HSI.o.at _ (List.getElem_mem hjl); cases Z; replace hx162_0 := (HB.o.cell (eU w _ hx162_0)).trans hx162_0
  generalize hx : g[j.toNat] = x at hg hx162_0 hsim
  clear hx; have a0 := eq_true h0j; have a1 := eq_true E; have HJ4 := zm E; clear h0j E hjl HG
  cases x with
  | n v =>
   simp only [aY.go] at hg
   have hg2 := eW.mp hg; clear hg
   obtain ⟨i, hit, hg⟩ := hg2
   have A8 := zm hit; clear hit hsim
   replace hx162_0 : wr.cell? (u.add j.toNat) = some (.iface 3 (.int .i64 v)) := hx162_0
   by_cases m : xs.length < 8796093022208
   rotate_left
   ·rw [if_neg m] at hg
    exact absurd hg (by simp)
   rw [if_pos m] at hg
   have p := zm m; have HG := zm hg; clear hg m
   go_wp2_with (first
    | ((with_reducible refine fJ (f := 75) rfl ?_); refine gU (some 25) rfl rfl Tryz.func75 (by kernel_rfl) rfl #[.int .i64 v] rfl (by (try simp only [List.map_toArray, jY, oN]); first | done | rfl) ?_; (with_reducible refine (cJ.calls v i _ A8.o).mono ?_); rintro e a9 ⟨rfl, hb⟩; refine ⟨_, rfl, ?_⟩; have d := zm (fI ((zg_6 Za.o)) hb); have a := zm (eZ ((by repeat (with_reducible first | exact HB.o | apply gO | apply gB | apply gA))) hb); clear Za HB; have Za := d; have HB := a; clear d a hb)
    | ((with_reducible refine kF (b := .append) (xs := #[.tmp 23, .tmp 26]) rfl ?_); at_builtin; refine lU gV (w0 := w) w.heap.size rfl (.tmp 23) (.tmp 26) 33 9 (.string ⟨#[]⟩) 16 rfl kG info9 rfl (by decide) (by omega) u3 xs i [.string i] (fun _ => True) (fun _ => False) rfl rfl ?aP (fun _ hk => hk.elim) ?aF ?aO ?aB ?aS ?aL ?_; (case aP => exact rfl); (case aB => exact ((by repeat (with_reducible first | exact HB.o | apply gO | apply gB | apply gA)))); (case aF => exact (fun _ _ => trivial)); (case aO => exact ((zg_6 Za.o))); (case aS => exact (eV ((by repeat (with_reducible first | exact HB.o | apply gO | apply gB | apply gA))))); (case aL => have := p.o; omega); intro B G ho hb hg_ hat; have d := zm (hb); have a := zm (ho); clear HB Za; have HB := d; have Zc := a; clear d a ho hb hg_ hat))
   go_roundg (g.length - (j + 1).toNat)
   case measure => have := HM.o; have := HK.o; have := HJ4.o; omega
   case rel => exact ⟨xs ++ [i], j + 1, by rw [WJ.o], ⟨by have := HK.o; omega⟩, ⟨by rw [HK.o.2.2]; exact HG.o⟩, ⟨zlR Zc.o⟩, ⟨(by repeat (with_reducible first | exact HB.o | apply gO | apply gB | apply gA))⟩⟩
  | s t =>
   simp only [aY.go] at hg
   clear hsim
   replace hx162_0 : wr.cell? (u.add j.toNat) = some (.iface 9 (.string t)) := hx162_0
   by_cases m : xs.length < 8796093022208
   rotate_left
   ·rw [if_neg m] at hg
    exact absurd hg (by simp)
   rw [if_pos m] at hg
   have p := zm m; have HG := zm hg; clear hg m
   go_wp2_with (first
    | ((with_reducible refine kF (b := .append) (xs := #[.tmp 31, .tmp 33]) rfl ?_); at_builtin; refine lU gV (w0 := w) w.heap.size rfl (.tmp 31) (.tmp 33) 33 9 (.string ⟨#[]⟩) 16 rfl kG info9 rfl (by decide) (by omega) u3 xs t [.string t] (fun _ => True) (fun _ => False) rfl rfl ?aP (fun _ hk => hk.elim) ?aF ?aO ?aB ?aS ?aL ?_; (case aP => exact rfl); (case aB => exact ((by repeat (with_reducible first | exact HB.o | apply gO | apply gB | apply gA)))); (case aF => exact (fun _ _ => trivial)); (case aO => exact ((zg_6 Za.o))); (case aS => exact (eV ((by repeat (with_reducible first | exact HB.o | apply gO | apply gB | apply gA))))); (case aL => have := p.o; omega); intro B G ho hb hg_ hat; have d := zm (hb); have a := zm (ho); clear HB Za; have HB := d; have Zc := a; clear d a ho hb hg_ hat))
   go_roundg (g.length - (j + 1).toNat)
   case measure => have := HM.o; have := HK.o; have := HJ4.o; omega
   case rel => exact ⟨xs ++ [t], j + 1, by rw [WJ.o], ⟨by have := HK.o; omega⟩, ⟨by rw [HK.o.2.2]; exact HG.o⟩, ⟨zlR Zc.o⟩, ⟨(by repeat (with_reducible first | exact HB.o | apply gO | apply gB | apply gA))⟩⟩
  | ss v l =>
   simp only [aY.go] at hg
   obtain ⟨A1, L, rfl, z, y⟩ := hsim
   have b0 := zm z; have I := zm y; clear z y
   replace hx162_0 : wr.cell? (u.add j.toNat) = some (.iface 33 (.slice A1 l.length L)) := hx162_0
   by_cases m : xs.length + l.length < 8796093022208
   rotate_left
   ·rw [if_neg m] at hg
    exact absurd hg (by simp)
   rw [if_pos m] at hg
   have p := zm m; have HG := zm hg; clear hg m
   go_wp2_with (first
    | ((with_reducible refine kF (b := .append) (xs := #[.tmp 38, .tmp 39]) rfl ?_); at_builtin; refine Kd.R_append_rows gV (w0 := w) w.heap.size rfl (.tmp 38) (.tmp 39) 33 9 (.string ⟨#[]⟩) 16 rfl kG info9 rfl (by decide) (by omega) u3 xs l _ _ _ (fun _ => True) (fun _ => False) rfl rfl ?aO ?aR (fun _ _ h => h) (fun _ h => h.elim) ?aF ?aB ?aS ?aL ?_; (case aR => exact fE I.o ((by repeat (with_reducible first | exact HB.o | apply gO | apply gB | apply gA)))); (case aB => exact ((by repeat (with_reducible first | exact HB.o | apply gO | apply gB | apply gA)))); (case aF => exact (fun _ _ => trivial)); (case aO => exact ((zg_6 Za.o))); (case aS => exact (eV ((by repeat (with_reducible first | exact HB.o | apply gO | apply gB | apply gA))))); (case aL => have := p.o; omega); intro B G ho hb hg_ hat; have d := zm (hb); have a := zm (ho); clear HB Za; have HB := d; have Zc := a; clear d a ho hb hg_ hat))
   go_roundg (g.length - (j + 1).toNat)
   case measure => have := HM.o; have := HK.o; have := HJ4.o; omega
   case rel => exact ⟨xs ++ l, j + 1, by rw [WJ.o], ⟨by have := HK.o; omega⟩, ⟨by rw [HK.o.2.2]; exact HG.o⟩, ⟨zlR Zc.o⟩, ⟨(by repeat (with_reducible first | exact HB.o | apply gO | apply gB | apply gA))⟩⟩
  | ns v l =>
   simp only [aY.go] at hg
   obtain ⟨A1, L, rfl, z, y⟩ := hsim
   have b0 := zm z; have I := zm y; have b1 := zm (show l.length ≤ 9223372036854775807 from y.2.1); clear z y
   replace hx162_0 : wr.cell? (u.add j.toNat) = some (.iface 23 (.slice A1 l.length L)) := hx162_0
   have hg2 := eW.mp hg; clear hg
   obtain ⟨o1, hin, hg⟩ := hg2
   have HG := zm hg; have HI := zm hin; clear hg hin
   go_wp2
   go_loopg [3, 46] l.length (fun kq U b2 w' => ∃ (ys : List ByteArray) (q : Int), b2 = .int .i64 q ∧ Aside0 (0 ≤ q ∧ q.toNat ≤ l.length ∧ l.length - q.toNat ≤ kq) ∧ Aside0 (aY.ints ys (l.drop q.toNat) = some o1) ∧ Aside0 (Kd.R gV 9 w' w.heap.size (fun _ => True) U ys) ∧ Aside0 (Below w.heap.size w w'))
   case atStart => exact ⟨xs, 0, zr, ⟨by simp⟩, ⟨by simpa using HI.o⟩, ⟨zlR Za.o⟩, ⟨(by repeat (with_reducible first | exact HB.o | apply gO | apply gB | apply gA))⟩⟩
   case round =>
    clear HI
    try clear L
    try clear p2
    try clear F
    try clear hx162_0
    try clear a0
    try clear a1
    clear Za HB
    obtain ⟨ys, q, rfl, HQ, HI, Za, HB⟩ := hrel
    by_cases D : q < (l.length : Int)
    rotate_left
    ·have a4 : decide (q < (l.length : Int)) = false := decide_eq_false D
     have eq_ : ys = o1 := by
      have hg := HI.o
      rw [iV (by omega)] at hg
      simpa [aY.ints] using hg
     subst eq_; clear D HI
     go_wp2
     go_roundg (g.length - (j + 1).toNat)
     case measure => have := HM.o; have := HK.o; have := HJ4.o; omega
     case rel => exact ⟨ys, j + 1, by rw [WJ.o], ⟨by have := HK.o; omega⟩, ⟨by rw [HK.o.2.2]; exact HG.o⟩, ⟨zlR Za.o⟩, ⟨(by repeat (with_reducible first | exact HB.o | apply gO | apply gB | apply gA))⟩⟩
    have a4 := decide_eq_true D
    have h0q : 0 ≤ q := HQ.o.1
    have hql : q.toNat < l.length := by omega
    have WQ : Aside0 (wrap64 (q + 1) = q + 1) := ⟨by unfold wrap64; have := b1.o; omega⟩
    have J := zm (show (q + 1).toNat ≤ l.length ∧ 0 ≤ q + 1 ∧ (q + 1).toNat = q.toNat + 1 from ⟨by omega, by omega, by omega⟩); have hg := HI.o
    rw [hP hql] at hg
    simp only [aY.ints] at hg
    have hg2 := eW.mp hg; clear hg
    obtain ⟨i, hit, hg⟩ := hg2
    have hrd : rd l q = l[q.toNat] := by simp [rd, hql]
    rw [← hrd] at hit
    have A8 := zm hit; clear hit hrd HI
    by_cases m : ys.length < 8796093022208
    rotate_left
    ·rw [if_neg m] at hg
     exact absurd hg (by simp)
    rw [if_pos m] at hg
    have p := zm m; have HI := zm hg; have b3 := zm D; clear hg m
    obtain ⟨b4, a5, hx172_0⟩ := gY I.o q h0q D
    cases a5; replace hx172_0 := (HB.o.cell (eU w _ hx172_0)).trans hx172_0; have b7 := eq_true h0q; have b8 := eq_true D; clear h0q D hql
    go_wp2_with (first
     | ((with_reducible refine fJ (f := 75) rfl ?_); refine gU (some 52) rfl rfl Tryz.func75 (by kernel_rfl) rfl #[.int .i64 (rd l q)] rfl (by (try simp only [List.map_toArray, jY, oN]); first | done | rfl) ?_; (with_reducible refine (cJ.calls (rd l q) i _ A8.o).mono ?_); rintro e a9 ⟨rfl, hb⟩; refine ⟨_, rfl, ?_⟩; have d := zm (fI ((zg_6 Za.o)) hb); have a := zm (eZ ((by repeat (with_reducible first | exact HB.o | apply gO | apply gB | apply gA))) hb); clear Za HB; have Za := d; have HB := a; clear d a hb)
     | ((with_reducible refine kF (b := .append) (xs := #[.tmp 50, .tmp 53]) rfl ?_); at_builtin; refine lU gV (w0 := w) w.heap.size rfl (.tmp 50) (.tmp 53) 33 9 (.string ⟨#[]⟩) 16 rfl kG info9 rfl (by decide) (by omega) u3 ys i [.string i] (fun _ => True) (fun _ => False) rfl rfl ?aP (fun _ hk => hk.elim) ?aF ?aO ?aB ?aS ?aL ?_; (case aP => exact rfl); (case aB => exact ((by repeat (with_reducible first | exact HB.o | apply gO | apply gB | apply gA)))); (case aF => exact (fun _ _ => trivial)); (case aO => exact ((zg_6 Za.o))); (case aS => exact (eV ((by repeat (with_reducible first | exact HB.o | apply gO | apply gB | apply gA))))); (case aL => have := p.o; omega); intro B G ho hb hg_ hat; have d := zm (hb); have a := zm (ho); clear HB Za; have HB := d; have Zc := a; clear d a ho hb hg_ hat))
    go_roundg (l.length - (q + 1).toNat)
    case measure => have := HQ.o; have := J.o; have := b3.o; omega
    case rel => exact ⟨ys ++ [i], q + 1, by rw [WQ.o], ⟨by have := J.o; omega⟩, ⟨by rw [J.o.2.2]; exact HI.o⟩, ⟨zlR Zc.o⟩, ⟨(by repeat (with_reducible first | exact HB.o | apply gO | apply gB | apply gA))⟩⟩
  | b v => simp [aY.go] at hg
def aZ.l0 : Nat → List ByteArray → List (S53) → Int → Int → Option (List ByteArray)
  | 0, _, _, _, _ => none
  | k + 1, x3, x14, x15, x16 => if x16 < x15 then (if 0 ≤ x16 then (if x16 < (x14.length : Int) then (if ((aC x14 x16).f0).size + 1 ≤ 9223372036854775807 then ((aY.f (([Any.s (((aC x14 x16).f0) ++ (⟨#[58]⟩ : ByteArray)), Any.ns (.bool false) ((aC x14 x16).f1)] : List Any))).bind fun t762 => (if x3.length < 8796093022208 then (aZ.l0 k (x3 ++ [t762]) x14 x15 (wrap64 (x16 + 1))) else (none))) else (none)) else (none)) else (none)) else (some x3)
def aZ.f (k : Nat) (l0_0 : List Int) (l0_1 : List (S53)) : Option (List ByteArray) := (aY.f (([Any.s (⟨#[110, 111, 119, 58]⟩ : ByteArray), Any.ns (.bool false) l0_0] : List Any))).bind fun t753 => (aZ.l0 k (([t753] : List ByteArray)) l0_1 (l0_1.length : Int) 0)
set_option maxHeartbeats 8000000 in
set_option maxRecDepth 100000 in
theorem aZ.calls (k : Nat) (i : Option Addr) (j : Nat) (d : List Int) (y : Option Addr) (q : Nat) (a : List (S53)) (r : List ByteArray) (w : World) (T : Kd.C (Kd.int .i64) w i d.length d) (U : d.length ≤ j) (V : Kd.C k53 w y a.length a) (X : a.length ≤ q) (h : aZ.f k d a = some r) (HTB_ : TryzTab w := by first | exact HTB_ | exact TryzTab.to HTB_ HB.o | exact TryzTab.to HTB_ (by repeat (first | exact HB.o | apply below_alloc | apply pw_below_drewN | apply below_drew1 | refine below_set ?_ (Aside0.o (by assumption))))) :
    Calls fM 17 #[.agg #[.slice i d.length j, .slice y a.length q]] w fun e w' => ∃ a8 : Value, e = .returned (a8) ∧ Kd.R gV 9 w' w.heap.size (fun _ => True) a8 r ∧ Below w.heap.size w w' := by
 have hu26 := iN; have hu53 := lQ; have Zo := zm T; have Zp := zm U; clear T U; have Zj := zm V; have Zq := zm X; clear V X; have HB := zm (fX w.heap.size w); have H := h
 unfold aZ.f at H
 clear h
 obtain ⟨b2, F⟩ : ∃ y_ : List Any, y_ = (([Any.s (⟨#[110, 111, 119, 58]⟩ : ByteArray), Any.ns (.bool false) d] : List Any)) := ⟨_, rfl⟩
 replace H : ((aY.f b2).bind fun v => (aZ.l0 k (([v] : List ByteArray)) a (a.length : Int) 0)) = some r := zy H F
 have a3 := zm F; clear F; replace H := eW.mp H
 obtain ⟨v, a9, H⟩ := H
 try dsimp only at H
 have A2 := zm a9; clear a9
 obtain ⟨Z, G⟩ : ∃ y_ : List ByteArray, y_ = (([v] : List ByteArray)) := ⟨_, rfl⟩
 replace H : (aZ.l0 k Z a (a.length : Int) 0) = some r := zy H G
 have Y := zm G; clear G
 have H' := zm H
 clear H
 go_enter Tryz.func17, Tryz.ntmps17
 obtain ⟨z750, hz750⟩ : ∃ y_ : List Any, y_ = (([Any.s (⟨#[110, 111, 119, 58]⟩ : ByteArray), Any.ns (.slice i d.length j) d] : List Any)) := ⟨_, rfl⟩
 have A2z := zm (show aY.f z750 = some v from by rw [hz750]; have h_ := A2.o; rw [a3.o] at h_; exact h_); have Nz750 := zm hz750; clear hz750
 go_wp2_with (first | ((with_reducible refine fP (N := 1) rfl ?_); refine fS zo (N := 1) zo (cs := #[.slice i d.length j, .slice y a.length q]) (t := 26) zh ?_; intro l hg w3 hbox hb; refine zG4 (eZ (zg_1 HB.o) hb) (hbox) ((by rw [hg]; exact (eV (zg_1 HB.o)) : w.heap.size ≤ l)) ((by rw [hg]; exact (eV (zg_1 HB.o)) : w.heap.size ≤ l)) ?_; clear HB; intro HB Za Zr Zb; clear hb hbox hg; obtain ⟨_, _, _, _⟩ := zb2 Za.o) | ((with_reducible refine fP (N := 10) rfl ?_); refine lT kAny _ 20 ?hg (N := 10) ?hd (xs := ([Any.s (⟨#[110, 111, 119, 58]⟩ : ByteArray), Any.ns (.slice i d.length j) d] : List Any)) (inner := [.iface 9 (.string (⟨#[110, 111, 119, 58]⟩ : ByteArray)), .iface 23 (.slice i d.length j)]) (ok := fun _ => True) (okp := fun _ => True) ?hr ?hp (fun _ hk => hk) trivial (fX _ _) (fQ _) (by simp) ?_; (case hd => rfl); (case hg => rfl); (case hr => first | (go_simp; done) | (go_simp; rfl)); (case hp => exact (lS (show Kd.M kAny _ _ _ (Any.s (⟨#[110, 111, 119, 58]⟩ : ByteArray)) [.iface 9 (.string (⟨#[110, 111, 119, 58]⟩ : ByteArray))] from rfl) (lS (show Kd.M kAny _ _ _ (Any.ns (.slice i d.length j) d) [.iface 23 (.slice i d.length j)] from rfl) (jD _ _)))); intro d1 w5 L hb hg_ hnew_; clear hg_ hnew_; (first | rw [← Nz750.o] at L | (simp only [gX] at L; rw [← Nz750.o] at L)); refine zG3 (fL L (eV (zg_2 HB.o Zb.o))) (fB (g := l) (o := .cells #[.slice i d.length j, .slice y a.length q] 26 (0, 0)) (zg_3 Za.o) hb) (eZ (zg_2 HB.o Zb.o) hb) ?_; clear Za HB; intro Ze Za HB; clear hb L; obtain ⟨b7, b8, rfl⟩ := fA Ze.o) | ((with_reducible refine fJ (f := 46) rfl ?_); refine gU (some 11) rfl rfl Tryz.func46 (by kernel_rfl) rfl #[.slice b7 z750.length b8] rfl zq ?_; (with_reducible refine (aY.calls _ _ z750 v _ ?side1 ?side2 A2z.o (HS_ := ?sideS)).mono ?_); (case sideS => rw [Nz750.o]; exact ⟨trivial, ⟨_, _, rfl, (by first | exact Aside0.o (by assumption) | assumption | omega), (by first | exact fE (w := w) (Aside0.o (by assumption)) (by repeat (with_reducible first | exact HB.o | apply gO | apply gB | apply gA)) | exact fE (w := w) (by assumption) (by repeat (with_reducible first | exact HB.o | apply gO | apply gB | apply gA)) | exact Aside0.o (by assumption))⟩, trivial⟩); (case side1 => exact zC ((fC Ze.o).2.2)); (case side2 => exact (fC Ze.o).2.1); rintro e w8 ⟨rfl, hb⟩; refine ⟨_, rfl, ?_⟩; refine zG3 (fI (zg_6 Ze.o) hb) (fB (g := l) (o := .cells #[.slice i d.length j, .slice y a.length q] 26 (0, 0)) (zg_3 Za.o) hb) (eZ (zg_2 HB.o Zb.o) hb) ?_; clear Ze Za HB; intro Ze Za HB; (try clear hb); (try clear hb2); (try clear hk); (try clear hi)) | ((with_reducible refine fP (N := 12) rfl ?_); refine lT gV _ 9 ?hg (N := 12) ?hd (xs := ([v] : List ByteArray)) (inner := [.string v]) (ok := fun _ => True) (okp := fun _ => True) ?hr ?hp (fun _ hk => hk) trivial (fX _ _) (fQ _) (by simp) ?_; (case hd => rfl); (case hg => rfl); (case hr => first | (go_simp; done) | (go_simp; rfl)); (case hp => exact (lS (show Kd.M gV _ _ _ v [.string v] from rfl) (jD _ _))); intro d2 w9 B hb hg_ hnew_; clear hg_ hnew_; (first | rw [← Y.o] at B | (simp only [gX] at B; rw [← Y.o] at B)); refine zG4 (fI (zg_6 Ze.o) hb) (fL B (eV (zg_2 HB.o Zb.o))) (fB (g := l) (o := .cells #[.slice i d.length j, .slice y a.length q] 26 (0, 0)) (zg_3 Za.o) hb) (eZ (zg_2 HB.o Zb.o) hb) ?_; clear Ze Za HB; intro Ze Zk Za HB; clear hb B; obtain ⟨_, _, _, _⟩ := zb2 Za.o))
 go_loopg [3, 16] k (fun kq v3 b9 w' => ∃ (z : List ByteArray) (c : Int), b9 = .int .i64 c ∧ Aside0 (aZ.l0 kq z a (a.length : Int) c = some r) ∧ Aside0 (kq ≤ k) ∧ Aside0 (Kd.R gV 9 w' w.heap.size (fun _ => True) v3 z) ∧ Aside0 (w'.heap[l]? = some (.cells #[(.slice i d.length j), (.slice y a.length q)] 26 (0, 0))) ∧ Aside0 (Below w.heap.size w w'))
 case atStart => exact ⟨(Z), (0), zr, H', ⟨fQ _⟩, ⟨zlR Zk.o⟩, ⟨zl Za.o⟩, ⟨zg_2 HB.o Zb.o⟩⟩
 case round =>
  clear H'
  try clear c1
  try clear p2
  try clear c4
  obtain ⟨z, c, rfl, HA, b0, Zd, Za, HB⟩ := hrel
  cases gk with
  | zero => exact absurd HA.o (by simp [aZ.l0])
  | succ k1 =>
   have H := HA.o; clear HA
   simp only [aZ.l0] at H
   by_cases E : c < (a.length : Int)
   rotate_left
   ·rw [if_neg E] at H
    have a4 := decide_eq_false E; clear E; obtain rfl := fF H
    go_wp2
    go_ret
    exact ⟨_, ze, by (with_reducible repeat (first | apply fY | apply fZ | apply fK)); exact Zd.o, zg_2 HB.o Zb.o⟩
   rw [if_pos E] at H; have a4 := decide_eq_true E; clear E
   replace H := zid H; obtain ⟨c2, H⟩ := H
   replace H := zid H; obtain ⟨c3, H⟩ := H
   replace H := zif H; obtain ⟨a0, H⟩ := H; have c5 := eq_true a0; have c6 := decide_eq_true a0
   try have c7 : (9223372036854775807 < ((aC a c).f0).size + 1) = False := eq_false (Nat.not_lt.2 a0)
   obtain ⟨b3, I⟩ : ∃ y_ : List Any, y_ = (([Any.s (((aC a c).f0) ++ (⟨#[58]⟩ : ByteArray)), Any.ns (.bool false) ((aC a c).f1)] : List Any)) := ⟨_, rfl⟩
   replace H : ((aY.f b3).bind fun A => (if z.length < 8796093022208 then (aZ.l0 k1 (z ++ [A]) a (a.length : Int) (wrap64 (c + 1))) else (none))) = some r := zy H I
   have a5 := zm I; clear I; replace H := eW.mp H
   obtain ⟨A, a1, H⟩ := H
   try dsimp only at H
   have c0 := zm a1; clear a1
   replace H := zif H; obtain ⟨b1, H⟩ := H; have a6 := zm b1; clear b1
   obtain ⟨a2, J⟩ : ∃ y_ : List ByteArray, y_ = (z ++ [A]) := ⟨_, rfl⟩
   replace H : (aZ.l0 k1 a2 a (a.length : Int) (wrap64 (c + 1))) = some r := zy H J
   have a7 := zm J; clear J
   have H' := zm H
   clear H
   have O : 0 ≤ (c : Int) := zd
   have S : c < (a.length : Int) := zd
   obtain ⟨x, m, n, b4, hx757_0, hx757_1, hl757_1, hi757_1⟩ := at_T53 Zj.o c O S
   cases b4; replace hx757_0 := (HB.o.cell (eU w _ hx757_0)).trans hx757_0; replace hx757_1 := (HB.o.cell (eU w _ hx757_1)).trans hx757_1; have Zm := zm hi757_1; have Zn := zm hl757_1; clear hi757_1 hl757_1; replace O := eq_true O; replace S := eq_true S
   obtain ⟨z759, hz759⟩ : ∃ y_ : List Any, y_ = (([Any.s (((aC a c).f0) ++ (⟨#[58]⟩ : ByteArray)), Any.ns (.slice m ((aC a c).f1).length n) ((aC a c).f1)] : List Any)) := ⟨_, rfl⟩
   have A16z := zm (show aY.f z759 = some A from by rw [hz759]; have h_ := c0.o; rw [a5.o] at h_; exact h_); have Nz759 := zm hz759; clear hz759
   go_wp2_with (first | ((with_reducible refine fP (N := 5) rfl ?_); refine fS zo (N := 5) zo (cs := #[.string (⟨#[]⟩ : ByteArray), .slice none 0 0]) (t := 53) zh ?_; intro u hg d6 hbox hb; refine zG8 (fI (zg_6 Zd.o) hb) (fB (g := l) (o := .cells #[.slice i d.length j, .slice (some x) a.length q] 26 (0, 0)) (zg_3 Za.o) hb) (eZ (zg_2 HB.o Zb.o) hb) (hbox) ((by rw [hg]; exact (eV (zg_2 HB.o Zb.o)) : w.heap.size ≤ u)) ((by rw [hg]; exact (eV (zg_2 HB.o Zb.o)) : w.heap.size ≤ u)) ((by rw [hg]; exact gN (hO (g := l) (o := .cells #[.slice i d.length j, .slice (some x) a.length q] 26 (0, 0)) (zg_3 Za.o)) : l ≠ u)) ((by rw [hg]; exact gT (hO (g := l) (o := .cells #[.slice i d.length j, .slice (some x) a.length q] 26 (0, 0)) (zg_3 Za.o)) : u ≠ l)) ?_; clear Zd Za HB; intro Zd Za HB Zc Zs Zh Zg Zi; clear hb hbox hg; have c8 := Zi.o; have c9 := Zg.o; obtain ⟨_, _, _, _⟩ := zb2 Zc.o) | ((with_reducible refine fP (N := 28) rfl ?_); refine lT kAny _ 20 ?hg (N := 28) ?hd (xs := ([Any.s (((aC a c).f0) ++ (⟨#[58]⟩ : ByteArray)), Any.ns (.slice m ((aC a c).f1).length n) ((aC a c).f1)] : List Any)) (inner := [.iface 9 (.string (((aC a c).f0) ++ (⟨#[58]⟩ : ByteArray))), .iface 23 (.slice m ((aC a c).f1).length n)]) (ok := fun _ => True) (okp := fun _ => True) ?hr ?hp (fun _ hk => hk) trivial (fX _ _) (fQ _) (by simp) ?_; (case hd => rfl); (case hg => rfl); (case hr => first | (go_simp; done) | (go_simp; rfl)); (case hp => exact (lS (show Kd.M kAny _ _ _ (Any.s (((aC a c).f0) ++ (⟨#[58]⟩ : ByteArray))) [.iface 9 (.string (((aC a c).f0) ++ (⟨#[58]⟩ : ByteArray)))] from rfl) (lS (show Kd.M kAny _ _ _ (Any.ns (.slice m ((aC a c).f1).length n) ((aC a c).f1)) [.iface 23 (.slice m ((aC a c).f1).length n)] from rfl) (jD _ _)))); intro d4 d7 D hb hg_ hnew_; clear hg_ hnew_; (first | rw [← Nz759.o] at D | (simp only [gX] at D; rw [← Nz759.o] at D)); refine zG5 (fI (by (with_reducible repeat (first | apply fY | apply fZ | apply fK)); exact (Kd.R_mono (fR (p := ⟨u, 1, none⟩) (fR (p := ⟨u, 0, none⟩) (Kd.R_types Zd.o Zc.o (by decide)) (fun _ hk => hk.2) (.string ((aC a c).f0))) (fun _ hk => hk.2) (.slice m ((aC a c).f1).length n)) (fun _ h_ => h_.1))) hb) (fL D (eV (zg_5 HB.o Zb.o Zh.o))) (fB (g := l) (o := .cells #[.slice i d.length j, .slice (some x) a.length q] 26 (0, 0)) (zfr Za.o Zg.o) hb) (fB (g := u) (o := .cells #[.string ((aC a c).f0), .slice m ((aC a c).f1).length n] 53 (0, 0)) (zp2 Zc.o) hb) (eZ (zg_5 HB.o Zb.o Zh.o) hb) ?_; clear Zd Za Zc HB; intro Zd Zf Za Zc HB; clear hb D; obtain ⟨b5, b6, rfl⟩ := fA Zf.o) | ((with_reducible refine fJ (f := 46) rfl ?_); refine gU (some 29) rfl rfl Tryz.func46 (by kernel_rfl) rfl #[.slice b5 z759.length b6] rfl zq ?_; (with_reducible refine (aY.calls _ _ z759 A _ ?side1 ?side2 A16z.o (HS_ := ?sideS)).mono ?_); (case sideS => rw [Nz759.o]; exact ⟨trivial, ⟨_, _, rfl, (by first | exact Aside0.o (by assumption) | assumption | omega), (by first | exact fE (w := w) (Aside0.o (by assumption)) (by repeat (with_reducible first | exact HB.o | apply gO | apply gB | apply gA)) | exact fE (w := w) (by assumption) (by repeat (with_reducible first | exact HB.o | apply gO | apply gB | apply gA)) | exact Aside0.o (by assumption))⟩, trivial⟩); (case side1 => exact zC ((fC Zf.o).2.2)); (case side2 => exact (fC Zf.o).2.1); rintro e d8 ⟨rfl, hb⟩; refine ⟨_, rfl, ?_⟩; refine zG5 (fI (zg_6 Zd.o) hb) (fI (zg_6 Zf.o) hb) (fB (g := l) (o := .cells #[.slice i d.length j, .slice (some x) a.length q] 26 (0, 0)) (zg_3 Za.o) hb) (fB (g := u) (o := .cells #[.string ((aC a c).f0), .slice m ((aC a c).f1).length n] 53 (0, 0)) (zg_3 Zc.o) hb) (eZ (zg_5 HB.o Zb.o Zh.o) hb) ?_; clear Zd Zf Za Zc HB; intro Zd Zf Za Zc HB; (try clear hb); (try clear hb2); (try clear hk); (try clear hi)) | ((with_reducible refine kF (b := .append) (xs := #[.tmp 20, .tmp 30]) rfl ?_); at_builtin; refine lU gV (w0 := w) w.heap.size rfl (.tmp 20) (.tmp 30) 33 9 (.string ⟨#[]⟩) 16 rfl kG info9 rfl (by decide) (by omega) u3 z A [.string A] (fun _ => True) (fun _ => False) rfl rfl ?aP (fun _ hk => hk.elim) ?aF ?aO ?aB ?aS ?aL ?_; (case aP => exact rfl); (case aB => exact (zg_5 HB.o Zb.o Zh.o)); (case aF => exact (fun _ _ => trivial)); (case aO => exact (zg_6 Zd.o)); (case aS => exact (eV (zg_5 HB.o Zb.o Zh.o))); (case aL => have := a6.o; omega); intro d5 d9 ho hb hg hat; rw [← a7.o] at ho; refine zG5 (gW (g := l) (o := .cells #[.slice i d.length j, .slice (some x) a.length q] 26 (0, 0)) (zg_3 Za.o) hg (gJ Zd.o Za.o (by decide))) (gW (g := u) (o := .cells #[.string ((aC a c).f0), .slice m ((aC a c).f1).length n] 53 (0, 0)) (zg_3 Zc.o) hg (gJ Zd.o Zc.o (by decide))) (Kd.R_over' (zg_6 Zf.o) (Kd.R_typed (zg_6 Zd.o)) (by decide) hg) (hb) (ho) ?_; clear Zd Za Zc Zf HB; intro Za Zc Zf HB Zl; clear ho hb hg hat))
   go_roundg k1
   case measure => have := b0.o; omega
   case rel => exact ⟨(a2), (wrap64 (c + 1)), zr, H', ⟨by have := b0.o; omega⟩, ⟨zlR Zl.o⟩, ⟨zl Za.o⟩, ⟨zg_5 HB.o Zb.o Zh.o⟩⟩
def cL.f (k : Nat) (l0_0 : List Int) (l0_1 : List (S53)) : Option (List ByteArray × Int) := (cT.f k l0_0 l0_1).bind fun t767 => (if t767 = true then ((aZ.f k l0_0 l0_1).bind fun t768 => (some (t768, 0))) else (some (([] : List ByteArray), 1)))
set_option maxHeartbeats 8000000 in
set_option maxRecDepth 100000 in
theorem cL.calls (k : Nat) (d : Option Addr) (i : Nat) (a : List Int) (j : Option Addr) (l : Nat) (b : List (S53)) (s : List ByteArray) (u : Int) (w : World) (n : Kd.C (Kd.int .i64) w d a.length a) (p : a.length ≤ i) (q : Kd.C k53 w j b.length b) (r : b.length ≤ l) (h : cL.f k a b = some (s, u)) (HTB_ : TryzTab w := by first | exact HTB_ | exact TryzTab.to HTB_ HB.o | exact TryzTab.to HTB_ (by repeat (first | exact HB.o | apply below_alloc | apply pw_below_drewN | apply below_drew1 | refine below_set ?_ (Aside0.o (by assumption))))) :
    Calls fM 6 #[.agg #[.slice d a.length i, .slice j b.length l]] w fun e w' => ∃ x : Value, e = .returned (.tuple #[x, .int .i64 u]) ∧ Kd.R gV 9 w' w.heap.size (fun _ => True) x s ∧ Below w.heap.size w w' := by
 have hu26 := iN; have Zc := zm n; have Zd := zm p; clear n p; have Ze := zm q; have Zf := zm r; clear q r; have HB := zm (fX w.heap.size w); have H := h
 unfold cL.f at H
 clear h; replace H := eW.mp H
 obtain ⟨B, y, H⟩ := H
 try dsimp only at H
 have D := zm y; clear y
 by_cases v : B = true
 rotate_left
 ·replace v := hN.mpr v
  subst v
  replace H : (some (([] : List ByteArray), 1)) = some (s, u) := by rw [if_neg (show ¬ (false = true) by decide)] at H; exact H
  simp only [gC, gP] at H
  obtain ⟨rfl, rfl⟩ := H
  go_enter Tryz.func6, Tryz.ntmps6
  go_wp2_with (first | ((with_reducible refine fP (N := 1) rfl ?_); refine fS zo (N := 1) zo (cs := #[.slice d a.length i, .slice j b.length l]) (t := 26) zh ?_; intro c hg G hbox hb; refine zG4 (eZ (zg_1 HB.o) hb) (hbox) ((by rw [hg]; exact (eV (zg_1 HB.o)) : w.heap.size ≤ c)) ((by rw [hg]; exact (eV (zg_1 HB.o)) : w.heap.size ≤ c)) ?_; clear HB; intro HB Za Zg Zb; clear hb hbox hg; obtain ⟨_, _, _, _⟩ := zb2 Za.o) | ((with_reducible refine fJ (f := 16) rfl ?_); refine gU (some 5) rfl rfl Tryz.func16 (by kernel_rfl) rfl #[.agg #[.slice d a.length i, .slice j b.length l]] rfl zq ?_; (with_reducible refine (cT.calls k _ _ a _ _ b false _ ?_ ?_ ?_ ?_ D.o).mono ?_); exact zC (fE Zc.o HB.o); exact Zd.o; exact zC (fE Ze.o HB.o); exact Zf.o; rintro e I ⟨rfl, hb⟩; refine ⟨_, rfl, ?_⟩; refine zG2 (fB (g := c) (o := .cells #[.slice d a.length i, .slice j b.length l] 26 (0, 0)) (zg_3 Za.o) hb) (eZ (zg_2 HB.o Zb.o) hb) ?_; clear Za HB; intro Za HB; (try clear hb); (try clear hb2); (try clear hk); (try clear hi)))
  go_ret2
  exact ⟨_, ze, by first | exact Kd.R_nil _ _ _ _ _ | exact Kd.N_nil _ _ _ _ _ | exact Kd.V_nil _ _ _ _ _ | exact Kd.Q_nil _ _ _ _ _ | exact Kd.S_nil _ _ _ _ _, zg_2 HB.o Zb.o⟩
 subst v
 replace H : ((aZ.f k a b).bind fun m => (some (m, 0))) = some (s, u) := by rw [if_pos rfl] at H; exact H
 replace H := eW.mp H
 obtain ⟨m, z, H⟩ := H
 replace H : (some (m, 0)) = some (s, u) := H
 have E := zm z; clear z
 simp only [gC, gP] at H
 obtain ⟨rfl, rfl⟩ := H
 go_enter Tryz.func6, Tryz.ntmps6
 go_wp2_with (first | ((with_reducible refine fP (N := 1) rfl ?_); refine fS zo (N := 1) zo (cs := #[.slice d a.length i, .slice j b.length l]) (t := 26) zh ?_; intro c hg J hbox hb; refine zG4 (eZ (zg_1 HB.o) hb) (hbox) ((by rw [hg]; exact (eV (zg_1 HB.o)) : w.heap.size ≤ c)) ((by rw [hg]; exact (eV (zg_1 HB.o)) : w.heap.size ≤ c)) ?_; clear HB; intro HB Za Zg Zb; clear hb hbox hg; obtain ⟨_, _, _, _⟩ := zb2 Za.o) | ((with_reducible refine fJ (f := 16) rfl ?_); refine gU (some 5) rfl rfl Tryz.func16 (by kernel_rfl) rfl #[.agg #[.slice d a.length i, .slice j b.length l]] rfl zq ?_; (with_reducible refine (cT.calls k _ _ a _ _ b true _ ?_ ?_ ?_ ?_ D.o).mono ?_); exact zC (fE Zc.o HB.o); exact Zd.o; exact zC (fE Ze.o HB.o); exact Zf.o; rintro e L ⟨rfl, hb⟩; refine ⟨_, rfl, ?_⟩; refine zG2 (fB (g := c) (o := .cells #[.slice d a.length i, .slice j b.length l] 26 (0, 0)) (zg_3 Za.o) hb) (eZ (zg_2 HB.o Zb.o) hb) ?_; clear Za HB; intro Za HB; (try clear hb); (try clear hb2); (try clear hk); (try clear hi); obtain ⟨_, _, _, _⟩ := zb2 Za.o) | ((with_reducible refine fJ (f := 17) rfl ?_); refine gU (some 8) rfl rfl Tryz.func17 (by kernel_rfl) rfl #[.agg #[.slice d a.length i, .slice j b.length l]] rfl zq ?_; (with_reducible refine (aZ.calls k _ _ a _ _ b m _ ?_ ?_ ?_ ?_ E.o).mono ?_); exact zC (fE Zc.o HB.o); exact Zd.o; exact zC (fE Ze.o HB.o); exact Zf.o; rintro e M ⟨F, rfl, A, hb⟩; refine ⟨_, rfl, ?_⟩; refine zG3 (fL A (eV (zg_2 HB.o Zb.o))) (fB (g := c) (o := .cells #[.slice d a.length i, .slice j b.length l] 26 (0, 0)) (zg_3 Za.o) hb) (eZ (zg_2 HB.o Zb.o) hb) ?_; clear Za HB; intro Zh Za HB; (try clear hb); (try clear hb2); (try clear hk); (try clear hi); (try clear A)))
 go_ret2
 exact ⟨_, ze, by (with_reducible repeat (first | apply fY | apply fZ | apply fK)); exact Zh.o, zg_2 HB.o Zb.o⟩
def dL.f (a0 : Int) : Option (Bool) := (cA.f a0 0 12).bind fun t811 => (some t811)
set_option maxHeartbeats 8000000 in
set_option maxRecDepth 100000 in
theorem dL.calls (a0 : Int) (r : Bool) (w : World) (h : dL.f a0 = some r) :
    Calls fM 20 #[.int .i64 a0] w fun e w' => e = .returned (.bool r) ∧ Drawn0 w w' := by
  have H : ((cA.f a0 0 12).bind fun a => (some a)) = some r := h
  clear h; replace H := eW.mp H
  obtain ⟨a, b, H⟩ := H
  replace H : (some a) = some r := H
  have c := zm b; clear b; obtain rfl := fF H
  go_enter Tryz.func20, Tryz.ntmps20
  go_wp2_with (first | ((with_reducible refine fJ (f := 50) rfl ?_); refine gU (some 4) rfl rfl Tryz.func50 (by kernel_rfl) rfl #[.int .i64 a0, .int .i64 0, .int .i64 12] rfl zq ?_; (with_reducible refine (cA.calls a0 0 12 a _ c.o).mono ?_); rintro e w' ⟨rfl, ⟨nd, rfl⟩⟩; refine ⟨_, rfl, ?_⟩))
  go_ret
  exact ⟨zr, by repeat (first | exact hJ _ | apply hM)⟩
def dF.f (a0 : Int) : Option (List Int × (List (S53)) × Int) := (dL.f a0).bind fun t813 => (if t813 = true then (if 0 ≤ a0 then (if (a0 : Int).toNat ≤ 35184372088832 then (some ((iJ (a0 : Int).toNat 0), ([] : List (S53)), 0)) else (none)) else (none)) else (some (([] : List Int), ([] : List (S53)), 4)))
set_option maxHeartbeats 8000000 in
set_option maxRecDepth 100000 in
theorem dF.calls (a0 : Int) (l : List Int) (m : List (S53)) (n : Int) (w : World) (h : dF.f a0 = some (l, m, n)) :
    Calls fM 8 #[.int .i64 a0] w fun e w' => ∃ q u : Value, e = .returned (.tuple #[.agg #[q, u], .int .i64 n]) ∧ Kd.R (fG .i64) 3 w' w.heap.size (fun _ => True) q l ∧ Kd.S k53 53 w' w.heap.size (fun k_ => some k_ ≠ ob q) u m ∧ Below w.heap.size w w' := by
 have hu26 := iN; have HB := zm (fX w.heap.size w); have H := h
 unfold dF.f at H
 clear h; replace H := eW.mp H
 obtain ⟨z, v, H⟩ := H
 try dsimp only at H
 have C := zm v; clear v
 by_cases s : z = true
 rotate_left
 ·replace s := hN.mpr s
  subst s
  replace H : (some (([] : List Int), ([] : List (S53)), 4)) = some (l, m, n) := by rw [if_neg (show ¬ (false = true) by decide)] at H; exact H
  simp only [gC, gP] at H
  obtain ⟨rfl, rfl, rfl⟩ := H
  go_enter Tryz.func8, Tryz.ntmps8
  go_wp2_with (first | ((with_reducible refine fP (N := 2) rfl ?_); refine fS zo (N := 2) zo (cs := #[.slice none 0 0, .slice none 0 0]) (t := 26) zh ?_; intro a hg c hbox hb; refine zG4 (eZ (zg_1 HB.o) hb) (hbox) ((by rw [hg]; exact (eV (zg_1 HB.o)) : w.heap.size ≤ a)) ((by rw [hg]; exact (eV (zg_1 HB.o)) : w.heap.size ≤ a)) ?_; clear HB; intro HB Za Zd Zb; clear hb hbox hg) | ((with_reducible refine fJ (f := 20) rfl ?_); refine gU (some 5) rfl rfl Tryz.func20 (by kernel_rfl) rfl #[.int .i64 a0] rfl zq ?_; (with_reducible refine (dL.calls a0 false _ C.o).mono ?_); rintro e w' ⟨rfl, ⟨nd, rfl⟩⟩; refine ⟨_, rfl, ?_⟩; (try (rw [drewN_self c]; generalize hq_ : mK c _ = c; refine zG2 (by rw [← hq_]; exact (zg_3 Za.o) : c.heap[a]? = some (.cells #[.slice none 0 0, .slice none 0 0] 26 (0, 0))) (by rw [← hq_]; exact (zg_2 HB.o Zb.o) : Below w.heap.size w c) ?_; clear Za HB hq_; intro Za HB)); obtain ⟨_, _, _, _⟩ := zb2 Za.o))
  refine bodyPost_ret (results_ct rfl _ _ a 26 #[.slice none 0 0, .slice none 0 0] (0, 0) _ rfl (zp2 Za.o) iN rfl (by kernel_rfl)) rfl ?_
  exact ⟨_, _, ze, by first | exact Kd.R_nil _ _ _ _ _ | exact Kd.N_nil _ _ _ _ _ | exact Kd.V_nil _ _ _ _ _ | exact Kd.Q_nil _ _ _ _ _ | exact Kd.S_nil _ _ _ _ _, by first | exact Kd.S_nil _ _ _ _ _ | exact Kd.N_nil _ _ _ _ _ | exact Kd.V_nil _ _ _ _ _ | exact Kd.Q_nil _ _ _ _ _ | exact Kd.R_nil _ _ _ _ _, zg_2 HB.o Zb.o⟩
 subst s
 replace H : (if 0 ≤ a0 then (if (a0 : Int).toNat ≤ 35184372088832 then (some ((iJ (a0 : Int).toNat 0), ([] : List (S53)), 0)) else (none)) else (none)) = some (l, m, n) := by rw [if_pos rfl] at H; exact H
 replace H := zif H; obtain ⟨A, H⟩ := H; have D := eq_true A; have E := decide_eq_true A; clear A
 replace H := zif H; obtain ⟨B, H⟩ := H; have F := eq_true B; have G := decide_eq_true B; clear B
 obtain ⟨i, b⟩ : ∃ y_ : List Int, y_ = (iJ (a0 : Int).toNat 0) := ⟨_, rfl⟩
 replace H : (some (i, ([] : List (S53)), 0)) = some (l, m, n) := zy H b
 have j := zm b; clear b
 simp only [gC, gP] at H
 obtain ⟨rfl, rfl, rfl⟩ := H
 go_enter Tryz.func8, Tryz.ntmps8
 go_wp2_with (first | ((with_reducible refine fP (N := 2) rfl ?_); refine fS zo (N := 2) zo (cs := #[.slice none 0 0, .slice none 0 0]) (t := 26) zh ?_; intro a hg r hbox hb; refine zG4 (eZ (zg_1 HB.o) hb) (hbox) ((by rw [hg]; exact (eV (zg_1 HB.o)) : w.heap.size ≤ a)) ((by rw [hg]; exact (eV (zg_1 HB.o)) : w.heap.size ≤ a)) ?_; clear HB; intro HB Za Zd Zb; clear hb hbox hg) | ((with_reducible refine fJ (f := 20) rfl ?_); refine gU (some 5) rfl rfl Tryz.func20 (by kernel_rfl) rfl #[.int .i64 a0] rfl zq ?_; (with_reducible refine (dL.calls a0 true _ C.o).mono ?_); rintro e w' ⟨rfl, ⟨nd, rfl⟩⟩; refine ⟨_, rfl, ?_⟩; (try (rw [drewN_self r]; generalize hq_ : mK r _ = r; refine zG2 (by rw [← hq_]; exact (zg_3 Za.o) : r.heap[a]? = some (.cells #[.slice none 0 0, .slice none 0 0] 26 (0, 0))) (by rw [← hq_]; exact (zg_2 HB.o Zb.o) : Below w.heap.size w r) ?_; clear Za HB hq_; intro Za HB))) | ((with_reducible refine fP (N := 9) rfl ?_); refine Kd.R_make (fG .i64) _ 3 rfl (N := 9) rfl 23 _ _ rfl a0 rfl rfl Tryz.underlying23 (.int .i64 0) 8 info3 rfl (by decide) (by omega) 0 (ok := fun _ => True) (okp := fun _ => True) rfl (fun _ hk => hk) trivial (zd) (Nat.le_trans (Nat.mul_le_mul_right _ (zd : a0.toNat ≤ 35184372088832)) (by omega)) (fX _ _) (fQ _) ?_; intro I J d hb hg_ hnew_; clear hg_ hnew_; (first | rw [← j.o] at d | (simp only [gX] at d; rw [← j.o] at d)); refine zG3 (fL d (eV (zg_2 HB.o Zb.o))) (fB (g := a) (o := .cells #[.slice none 0 0, .slice none 0 0] 26 (0, 0)) (zg_3 Za.o) hb) (eZ (zg_2 HB.o Zb.o) hb) ?_; clear Za HB; intro Zc Za HB; clear hb d; obtain ⟨x, y, rfl⟩ := fA Zc.o; obtain ⟨_, _, _, _⟩ := zb2 Za.o))
 refine bodyPost_ret (results_ct rfl _ _ a 26 #[.slice x i.length y, .slice none 0 0] (0, 0) _ rfl (zp2 Za.o) iN rfl (by kernel_rfl)) rfl ?_
 exact ⟨_, _, ze, by (with_reducible repeat (first | apply fY | apply fZ | apply fK)); exact Kd.R_mono (fR (p := ⟨a, 1, none⟩) (fR (p := ⟨a, 0, none⟩) (Kd.R_types Zc.o Za.o (by decide)) (fun _ hk => hk.2) (.slice x i.length y)) (fun _ hk => hk.2) (.slice none 0 0)) (fun _ hk => trivial), by first | exact Kd.S_nil _ _ _ _ _ | exact Kd.N_nil _ _ _ _ _ | exact Kd.V_nil _ _ _ _ _ | exact Kd.Q_nil _ _ _ _ _ | exact Kd.R_nil _ _ _ _ _, zg_2 HB.o Zb.o⟩
def cQ.f (k : Nat) (a0_0 : ByteArray) (l0_1 : List Int) (a1_0 : ByteArray) (l1_1 : List Int) : Option (Bool) := if a0_0.toList = a1_0.toList then ((aN.f k l0_1 l1_1).bind fun t105 => (some t105)) else (some false)
set_option maxHeartbeats 8000000 in
set_option maxRecDepth 100000 in
theorem cQ.calls (k : Nat) (a0_0 : ByteArray) (j : Option Addr) (l : Nat) (c : List Int) (a1_0 : ByteArray) (q : Option Addr) (s : Nat) (m : List Int) (r : Bool) (w : World) (y : Kd.C (fG .i64) w j c.length c) (z : c.length ≤ l) (A : Kd.C (fG .i64) w q m.length m) (B : m.length ≤ s) (h : cQ.f k a0_0 c a1_0 m = some r) :
    Calls fM 23 #[.agg #[.string a0_0, .slice j c.length l], .agg #[.string a1_0, .slice q m.length s]] w fun e w' => e = .returned (.bool r) ∧ Below w.heap.size w w' := by
 have hu53 := lQ; have E := zm y; have F := zm z; clear y z; have G := zm A; have I := zm B; clear A B; have HB := zm (fX w.heap.size w); have H := h
 unfold cQ.f at H
 clear h
 by_cases x : a0_0.toList = a1_0.toList
 rotate_left
 ·rw [if_neg x] at H
  have O : (a0_0.toList == a1_0.toList) = false := beq_eq_false_iff_ne.mpr x
  have R : (a0_0.toList != a1_0.toList) = true := bne_iff_ne.mpr x
  obtain rfl := fF H
  go_enter Tryz.func23, Tryz.ntmps23
  go_wp2_with (first | ((with_reducible refine fP (N := 2) rfl ?_); refine fS zo (N := 2) zo (cs := #[.string a0_0, .slice j c.length l]) (t := 53) zh ?_; intro a hg Y hbox hb; refine zG4 (eZ (zg_1 HB.o) hb) (hbox) ((by rw [hg]; exact (eV (zg_1 HB.o)) : w.heap.size ≤ a)) ((by rw [hg]; exact (eV (zg_1 HB.o)) : w.heap.size ≤ a)) ?_; clear HB; intro HB b J d; clear hb hbox hg) | ((with_reducible refine fP (N := 3) rfl ?_); refine fS zo (N := 3) zo (cs := #[.string a1_0, .slice q m.length s]) (t := 53) zh ?_; intro i hg Z hbox hb; refine zG7 (fB (g := a) (o := .cells #[.string a0_0, .slice j c.length l] 53 (0, 0)) (zg_3 b.o) hb) (eZ (zg_2 HB.o d.o) hb) (hbox) ((by rw [hg]; exact (eV (zg_2 HB.o d.o)) : w.heap.size ≤ i)) ((by rw [hg]; exact (eV (zg_2 HB.o d.o)) : w.heap.size ≤ i)) ((by rw [hg]; exact gN (hO (g := a) (o := .cells #[.string a0_0, .slice j c.length l] 53 (0, 0)) (zg_3 b.o)) : a ≠ i)) ((by rw [hg]; exact gT (hO (g := a) (o := .cells #[.string a0_0, .slice j c.length l] 53 (0, 0)) (zg_3 b.o)) : i ≠ a)) ?_; clear b HB; intro b HB u L v n p; clear hb hbox hg; have S := n.o; have T := p.o; obtain ⟨_, _, _, _⟩ := zb2 b.o; obtain ⟨_, _, _, _⟩ := zb2 u.o))
  go_ret
  exact ⟨ze, zg_5 HB.o d.o v.o⟩
 rw [if_pos x] at H
 have O : (a0_0.toList == a1_0.toList) = true := beq_iff_eq.mpr x
 have R : (a0_0.toList != a1_0.toList) = false := bne_eq_false_iff_eq.mpr x
 clear x; replace H := eW.mp H
 obtain ⟨D, M, H⟩ := H
 replace H : (some D) = some r := H
 have U := zm M; clear M; obtain rfl := fF H
 go_enter Tryz.func23, Tryz.ntmps23
 go_wp2_with (first | ((with_reducible refine fP (N := 2) rfl ?_); refine fS zo (N := 2) zo (cs := #[.string a0_0, .slice j c.length l]) (t := 53) zh ?_; intro a hg w5 hbox hb; refine zG4 (eZ (zg_1 HB.o) hb) (hbox) ((by rw [hg]; exact (eV (zg_1 HB.o)) : w.heap.size ≤ a)) ((by rw [hg]; exact (eV (zg_1 HB.o)) : w.heap.size ≤ a)) ?_; clear HB; intro HB b J d; clear hb hbox hg) | ((with_reducible refine fP (N := 3) rfl ?_); refine fS zo (N := 3) zo (cs := #[.string a1_0, .slice q m.length s]) (t := 53) zh ?_; intro i hg w6 hbox hb; refine zG7 (fB (g := a) (o := .cells #[.string a0_0, .slice j c.length l] 53 (0, 0)) (zg_3 b.o) hb) (eZ (zg_2 HB.o d.o) hb) (hbox) ((by rw [hg]; exact (eV (zg_2 HB.o d.o)) : w.heap.size ≤ i)) ((by rw [hg]; exact (eV (zg_2 HB.o d.o)) : w.heap.size ≤ i)) ((by rw [hg]; exact gN (hO (g := a) (o := .cells #[.string a0_0, .slice j c.length l] 53 (0, 0)) (zg_3 b.o)) : a ≠ i)) ((by rw [hg]; exact gT (hO (g := a) (o := .cells #[.string a0_0, .slice j c.length l] 53 (0, 0)) (zg_3 b.o)) : i ≠ a)) ?_; clear b HB; intro b HB u L v n p; clear hb hbox hg; have V := n.o; have X := p.o; obtain ⟨_, _, _, _⟩ := zb2 b.o; obtain ⟨_, _, _, _⟩ := zb2 u.o) | (go_at_call 21; (with_reducible refine (aN.calls k _ _ c _ _ m D _ ?_ ?_ ?_ ?_ U.o).mono ?_); exact zC (fE E.o HB.o); exact F.o; exact zC (fE G.o HB.o); exact I.o; rintro e w' ⟨rfl, ⟨nd, rfl⟩⟩))
 go_ret
 exact ⟨ze, zg_5 HB.o d.o v.o⟩
def bW.l0 : Nat → List (S53) → List (S53) → Int → Int → Option (Bool)
  | 0, _, _, _, _ => none
  | k + 1, x1, x15, x16, x17 => if x17 < x16 then (if 0 ≤ x17 then (if x17 < (x15.length : Int) then (if x17 < (x1.length : Int) then ((cQ.f k ((aC x15 x17).f0) ((aC x15 x17).f1) ((aC x1 x17).f0) ((aC x1 x17).f1)).bind fun t825 => (if t825 = true then (bW.l0 k x1 x15 x16 (wrap64 (x17 + 1))) else (some false))) else (none)) else (none)) else (none)) else (some true)
def bW.f (k : Nat) (l0 : List (S53)) (l1 : List (S53)) (a2 : Unit) : Option (Bool) := if (l0.length : Int) = (l1.length : Int) then (bW.l0 k l1 l0 (l0.length : Int) 0) else (some false)
set_option maxHeartbeats 8000000 in
set_option maxRecDepth 100000 in
theorem bW.calls (k : Nat) (Z : Option Addr) (c0 : Nat) (c : List (S53)) (A1 : Option Addr) (V : Nat) (l : List (S53)) (a2 : Unit) (r : Bool) (w : World) (J : Kd.C k53 w Z c.length c) (L : c.length ≤ c0) (M : Kd.C k53 w A1 l.length l) (O : l.length ≤ V) (h : bW.f k c l a2 = some r) :
    Calls fM 22 #[.slice Z c.length c0, .slice A1 l.length V, .func (.func 23) #[] #[]] w fun e w' => e = .returned (.bool r) ∧ Below w.heap.size w w' := by
 have hu53 := lQ; have R := zm J; have b3 := zm L; clear J L; have S := zm M; have b4 := zm O; clear M O; have HB := zm (fX w.heap.size w); have H := h
 unfold bW.f at H
 clear h
 by_cases y : (c.length : Int) = (l.length : Int)
 rotate_left
 ·rw [if_neg y] at H
  have E : ((c.length : Int) == (l.length : Int)) = false := beq_eq_false_iff_ne.mpr y
  have F : ((c.length : Int) != (l.length : Int)) = true := bne_iff_ne.mpr y
  have G : (c.length == l.length) = false := by first | simpa using y | (simp at y ⊢; omega)
  obtain rfl := fF H
  go_enter Tryz.func22, Tryz.ntmps22
  go_wp2
  go_ret
  exact ⟨ze, zg_1 HB.o⟩
 rw [if_pos y] at H
 have E : ((c.length : Int) == (l.length : Int)) = true := beq_iff_eq.mpr y
 have F : ((c.length : Int) != (l.length : Int)) = false := bne_eq_false_iff_eq.mpr y
 have G : (c.length == l.length) = true := by first | simpa using y | (simp at y ⊢; omega)
 clear y
 have H' := zm H
 clear H
 go_enter Tryz.func22, Tryz.ntmps22
 go_wp2
 go_loopg [17] k (fun kq a3 w' => ∃ (a : Int), a3 = .int .i64 a ∧ Aside0 (bW.l0 kq l c (c.length : Int) a = some r) ∧ Aside0 (kq ≤ k) ∧ Aside0 (Below w.heap.size w w'))
 case atStart => exact ⟨(0), zr, H', ⟨fQ _⟩, ⟨zg_1 HB.o⟩⟩
 case round =>
  clear H'
  try clear V
  try clear p2
  try clear y
  try clear E
  try clear F
  try clear G
  obtain ⟨a, rfl, HA, T, HB⟩ := hrel
  cases gk with
  | zero => exact absurd HA.o (by simp [bW.l0])
  | succ k1 =>
   have H := HA.o; clear HA
   simp only [bW.l0] at H
   by_cases D : a < (c.length : Int)
   rotate_left
   ·rw [if_neg D] at H
    have X := decide_eq_false D; clear D; obtain rfl := fF H
    go_wp2
    go_ret
    exact ⟨ze, zg_1 HB.o⟩
   rw [if_pos D] at H; have X := decide_eq_true D; clear D
   replace H := zid H; obtain ⟨b0, H⟩ := H
   replace H := zid H; obtain ⟨b1, H⟩ := H
   replace H := zif H; obtain ⟨c8, H⟩ := H; have b2 := decide_eq_true c8; clear c8; replace H := eW.mp H
   obtain ⟨Y, U, H⟩ := H
   try dsimp only at H
   have A9 := zm U; clear U
   by_cases B : Y = true
   ·subst B
    replace H : (bW.l0 k1 l c (c.length : Int) (wrap64 (a + 1))) = some r := by rw [if_pos rfl] at H; exact H
    have H' := zm H
    clear H
    have q : 0 ≤ (a : Int) := zd
    have s : a < (c.length : Int) := zd
    obtain ⟨I, d, i, z, hx821_0, hx821_1, hl821_1, hi821_1⟩ := at_T53 R.o a q s
    cases z; replace hx821_0 := (HB.o.cell (eU w _ hx821_0)).trans hx821_0; replace hx821_1 := (HB.o.cell (eU w _ hx821_1)).trans hx821_1; have Zg := zm hi821_1; have Zh := zm hl821_1; clear hi821_1 hl821_1; replace q := eq_true q; replace s := eq_true s
    go_wp2_with (first | ((with_reducible refine fP (N := 8) rfl ?_); refine fS zo (N := 8) zo (cs := #[.string (⟨#[]⟩ : ByteArray), .slice none 0 0]) (t := 53) zh ?_; intro b hg b5 hbox hb; refine zG4 (eZ (zg_1 HB.o) hb) (hbox) ((by rw [hg]; exact (eV (zg_1 HB.o)) : w.heap.size ≤ b)) ((by rw [hg]; exact (eV (zg_1 HB.o)) : w.heap.size ≤ b)) ?_; clear HB; intro HB Za Zk Zc; clear hb hbox hg; obtain ⟨_, _, _, _⟩ := zb2 Za.o; have u : 0 ≤ (a : Int) := zd; have v : a < (l.length : Int) := zd; obtain ⟨x, m, n, A, hx823_0, hx823_1, hl823_1, hi823_1⟩ := at_T53 S.o a u v; cases A; have hn823_0 : x.block ≠ b := gN (lZ (by have := eU _ _ hx823_0; first | rwa [hY] at this | exact this) Zk.o); have hn823_1 : x.block ≠ b := gN (lZ (by have := eU _ _ hx823_0; first | rwa [hY] at this | exact this) Zk.o); replace hx823_0 := (HB.o.cell (eU w _ hx823_0)).trans hx823_0; replace hx823_1 := (HB.o.cell (eU w _ hx823_1)).trans hx823_1; have Zi := zm hi823_1; have Zj := zm hl823_1; clear hi823_1 hl823_1; replace hx823_0 := (mA (p := ⟨b, 0, none⟩) (by first | (rw [hY]; exact hn823_0) | (show (kW _ _).block ≠ _; rw [hY]; exact hn823_0) | exact hn823_0) (.string ((aC c a).f0))).trans hx823_0; replace hx823_1 := (mA (p := ⟨b, 0, none⟩) (by first | (rw [hY]; exact hn823_0) | (show (kW _ _).block ≠ _; rw [hY]; exact hn823_0) | exact hn823_0) (.string ((aC c a).f0))).trans hx823_1; replace hx823_0 := (mA (p := ⟨b, 1, none⟩) (by first | (rw [hY]; exact hn823_1) | (show (kW _ _).block ≠ _; rw [hY]; exact hn823_1) | exact hn823_1) (.slice d ((aC c a).f1).length i)).trans hx823_0; replace hx823_1 := (mA (p := ⟨b, 1, none⟩) (by first | (rw [hY]; exact hn823_1) | (show (kW _ _).block ≠ _; rw [hY]; exact hn823_1) | exact hn823_1) (.slice d ((aC c a).f1).length i)).trans hx823_1; clear hn823_0; clear hn823_1; replace u := eq_true u; replace v := eq_true v) | ((with_reducible refine fP (N := 9) rfl ?_); refine fS zo (N := 9) zo (cs := #[.string (⟨#[]⟩ : ByteArray), .slice none 0 0]) (t := 53) zh ?_; intro j hg b6 hbox hb; refine zG7 (fB (g := b) (o := .cells #[.string ((aC c a).f0), .slice d ((aC c a).f1).length i] 53 (0, 0)) (zp2 Za.o) hb) (eZ (zg_2 HB.o Zc.o) hb) (hbox) ((by rw [hg]; exact (eV (zg_2 HB.o Zc.o)) : w.heap.size ≤ j)) ((by rw [hg]; exact (eV (zg_2 HB.o Zc.o)) : w.heap.size ≤ j)) ((by rw [hg]; exact gN (hO (g := b) (o := .cells #[.string ((aC c a).f0), .slice d ((aC c a).f1).length i] 53 (0, 0)) (zp2 Za.o)) : b ≠ j)) ((by rw [hg]; exact gT (hO (g := b) (o := .cells #[.string ((aC c a).f0), .slice d ((aC c a).f1).length i] 53 (0, 0)) (zp2 Za.o)) : j ≠ b)) ?_; clear Za HB; intro Za HB Zd Zl Ze Zb Zf; clear hb hbox hg; have a6 := Zf.o; have a7 := Zb.o; obtain ⟨_, _, _, _⟩ := zb2 Zd.o; obtain ⟨_, _, _, _⟩ := zb2 Za.o) | ((with_reducible refine fP (N := 29) rfl ?_); refine goesV (some 29) rfl rfl Tryz.func23 (by kernel_rfl) rfl #[.agg #[.string ((aC c a).f0), .slice d ((aC c a).f1).length i], .agg #[.string ((aC l a).f0), .slice m ((aC l a).f1).length n]] rfl (cap := #[]) ?hx ?hargs ?_; (case hx => rfl); (case hargs => simp [Act.eval]); (with_reducible refine (cQ.calls k1 ((aC c a).f0) _ _ ((aC c a).f1) ((aC l a).f0) _ _ ((aC l a).f1) true _ ?_ ?_ ?_ ?_ A9.o).mono ?_); exact fE Zg.o (zg_5 HB.o Zc.o Ze.o); exact Zh.o; exact fE Zi.o (zg_5 HB.o Zc.o Ze.o); exact Zj.o; rintro e b7 ⟨rfl, hb⟩; refine ⟨_, rfl, ?_⟩; refine zG3 (fB (g := b) (o := .cells #[.string ((aC c a).f0), .slice d ((aC c a).f1).length i] 53 (0, 0)) (zfr Za.o Zb.o) hb) (fB (g := j) (o := .cells #[.string ((aC l a).f0), .slice m ((aC l a).f1).length n] 53 (0, 0)) (zp2 Zd.o) hb) (eZ (zg_5 HB.o Zc.o Ze.o) hb) ?_; clear Za Zd HB; intro Za Zd HB; (try clear hb); (try clear hb2); (try clear hk); (try clear hi)))
    go_roundg k1
    case measure => have := T.o; omega
    case rel => exact ⟨(wrap64 (a + 1)), zr, H', ⟨by have := T.o; omega⟩, ⟨zg_5 HB.o Zc.o Ze.o⟩⟩
   replace B := hN.mpr B; subst B
   replace H : (some false) = some r := by rw [if_neg (show ¬ (false = true) by decide)] at H; exact H
   obtain rfl := fF H
   have q : 0 ≤ (a : Int) := zd
   have s : a < (c.length : Int) := zd
   obtain ⟨I, d, i, z, hx821_0, hx821_1, hl821_1, hi821_1⟩ := at_T53 R.o a q s
   cases z; replace hx821_0 := (HB.o.cell (eU w _ hx821_0)).trans hx821_0; replace hx821_1 := (HB.o.cell (eU w _ hx821_1)).trans hx821_1; have Zg := zm hi821_1; have Zh := zm hl821_1; clear hi821_1 hl821_1; replace q := eq_true q; replace s := eq_true s
   go_wp2_with (first | ((with_reducible refine fP (N := 8) rfl ?_); refine fS zo (N := 8) zo (cs := #[.string (⟨#[]⟩ : ByteArray), .slice none 0 0]) (t := 53) zh ?_; intro b hg b8 hbox hb; refine zG4 (eZ (zg_1 HB.o) hb) (hbox) ((by rw [hg]; exact (eV (zg_1 HB.o)) : w.heap.size ≤ b)) ((by rw [hg]; exact (eV (zg_1 HB.o)) : w.heap.size ≤ b)) ?_; clear HB; intro HB Za Zk Zc; clear hb hbox hg; obtain ⟨_, _, _, _⟩ := zb2 Za.o; have u : 0 ≤ (a : Int) := zd; have v : a < (l.length : Int) := zd; obtain ⟨x, m, n, A, hx823_0, hx823_1, hl823_1, hi823_1⟩ := at_T53 S.o a u v; cases A; have hn823_0 : x.block ≠ b := gN (lZ (by have := eU _ _ hx823_0; first | rwa [hY] at this | exact this) Zk.o); have hn823_1 : x.block ≠ b := gN (lZ (by have := eU _ _ hx823_0; first | rwa [hY] at this | exact this) Zk.o); replace hx823_0 := (HB.o.cell (eU w _ hx823_0)).trans hx823_0; replace hx823_1 := (HB.o.cell (eU w _ hx823_1)).trans hx823_1; have Zi := zm hi823_1; have Zj := zm hl823_1; clear hi823_1 hl823_1; replace hx823_0 := (mA (p := ⟨b, 0, none⟩) (by first | (rw [hY]; exact hn823_0) | (show (kW _ _).block ≠ _; rw [hY]; exact hn823_0) | exact hn823_0) (.string ((aC c a).f0))).trans hx823_0; replace hx823_1 := (mA (p := ⟨b, 0, none⟩) (by first | (rw [hY]; exact hn823_0) | (show (kW _ _).block ≠ _; rw [hY]; exact hn823_0) | exact hn823_0) (.string ((aC c a).f0))).trans hx823_1; replace hx823_0 := (mA (p := ⟨b, 1, none⟩) (by first | (rw [hY]; exact hn823_1) | (show (kW _ _).block ≠ _; rw [hY]; exact hn823_1) | exact hn823_1) (.slice d ((aC c a).f1).length i)).trans hx823_0; replace hx823_1 := (mA (p := ⟨b, 1, none⟩) (by first | (rw [hY]; exact hn823_1) | (show (kW _ _).block ≠ _; rw [hY]; exact hn823_1) | exact hn823_1) (.slice d ((aC c a).f1).length i)).trans hx823_1; clear hn823_0; clear hn823_1; replace u := eq_true u; replace v := eq_true v) | ((with_reducible refine fP (N := 9) rfl ?_); refine fS zo (N := 9) zo (cs := #[.string (⟨#[]⟩ : ByteArray), .slice none 0 0]) (t := 53) zh ?_; intro j hg b9 hbox hb; refine zG7 (fB (g := b) (o := .cells #[.string ((aC c a).f0), .slice d ((aC c a).f1).length i] 53 (0, 0)) (zp2 Za.o) hb) (eZ (zg_2 HB.o Zc.o) hb) (hbox) ((by rw [hg]; exact (eV (zg_2 HB.o Zc.o)) : w.heap.size ≤ j)) ((by rw [hg]; exact (eV (zg_2 HB.o Zc.o)) : w.heap.size ≤ j)) ((by rw [hg]; exact gN (hO (g := b) (o := .cells #[.string ((aC c a).f0), .slice d ((aC c a).f1).length i] 53 (0, 0)) (zp2 Za.o)) : b ≠ j)) ((by rw [hg]; exact gT (hO (g := b) (o := .cells #[.string ((aC c a).f0), .slice d ((aC c a).f1).length i] 53 (0, 0)) (zp2 Za.o)) : j ≠ b)) ?_; clear Za HB; intro Za HB Zd Zl Ze Zb Zf; clear hb hbox hg; have a8 := Zf.o; have a9 := Zb.o; obtain ⟨_, _, _, _⟩ := zb2 Zd.o; obtain ⟨_, _, _, _⟩ := zb2 Za.o) | ((with_reducible refine fP (N := 29) rfl ?_); refine goesV (some 29) rfl rfl Tryz.func23 (by kernel_rfl) rfl #[.agg #[.string ((aC c a).f0), .slice d ((aC c a).f1).length i], .agg #[.string ((aC l a).f0), .slice m ((aC l a).f1).length n]] rfl (cap := #[]) ?hx ?hargs ?_; (case hx => rfl); (case hargs => simp [Act.eval]); (with_reducible refine (cQ.calls k1 ((aC c a).f0) _ _ ((aC c a).f1) ((aC l a).f0) _ _ ((aC l a).f1) false _ ?_ ?_ ?_ ?_ A9.o).mono ?_); exact fE Zg.o (zg_5 HB.o Zc.o Ze.o); exact Zh.o; exact fE Zi.o (zg_5 HB.o Zc.o Ze.o); exact Zj.o; rintro e c2 ⟨rfl, hb⟩; refine ⟨_, rfl, ?_⟩; refine zG3 (fB (g := b) (o := .cells #[.string ((aC c a).f0), .slice d ((aC c a).f1).length i] 53 (0, 0)) (zfr Za.o Zb.o) hb) (fB (g := j) (o := .cells #[.string ((aC l a).f0), .slice m ((aC l a).f1).length n] 53 (0, 0)) (zp2 Zd.o) hb) (eZ (zg_5 HB.o Zc.o Ze.o) hb) ?_; clear Za Zd HB; intro Za Zd HB; (try clear hb); (try clear hb2); (try clear hk); (try clear hi)))
   go_ret
   exact ⟨ze, zg_5 HB.o Zc.o Ze.o⟩
def cM.f (k : Nat) (l0_0 : List Int) (l0_1 : List (S53)) (l1_0 : List Int) (l1_1 : List (S53)) : Option (Bool) := (aN.f k l0_0 l1_0).bind fun t828 => (if t828 = true then ((bW.f k l0_1 l1_1 ()).bind fun t829 => (some t829)) else (some false))
set_option maxHeartbeats 8000000 in
set_option maxRecDepth 100000 in
theorem cM.calls (k : Nat) (d : Option Addr) (i : Nat) (b : List Int) (m : Option Addr) (n : Nat) (c : List (S53)) (q : Option Addr) (s : Nat) (l : List Int) (u : Option Addr) (v : Nat) (p : List (S53)) (r : Bool) (w : World) (y : Kd.C (fG .i64) w d b.length b) (z : b.length ≤ i) (A : Kd.C k53 w m c.length c) (B : c.length ≤ n) (D : Kd.C (fG .i64) w q l.length l) (E : l.length ≤ s) (F : Kd.C k53 w u p.length p) (G : p.length ≤ v) (h : cM.f k b c l p = some r) :
    Calls fM 11 #[.agg #[.slice d b.length i, .slice m c.length n], .agg #[.slice q l.length s, .slice u p.length v]] w fun e w' => e = .returned (.bool r) ∧ Below w.heap.size w w' := by
 have hu26 := iN; have Zg := zm y; have Zh := zm z; clear y z; have Zk := zm A; have Zl := zm B; clear A B; have Zi := zm D; have Zj := zm E; clear D E; have Zm := zm F; have Zn := zm G; clear F G; have HB := zm (fX w.heap.size w); have H := h
 unfold cM.f at H
 clear h; replace H := eW.mp H
 obtain ⟨M, J, H⟩ := H
 try dsimp only at H
 have O := zm J; clear J
 by_cases I : M = true
 rotate_left
 ·replace I := hN.mpr I
  subst I
  replace H : (some false) = some r := by rw [if_neg (show ¬ (false = true) by decide)] at H; exact H
  obtain rfl := fF H
  go_enter Tryz.func11, Tryz.ntmps11
  go_wp2_with (first | ((with_reducible refine fP (N := 2) rfl ?_); refine fS zo (N := 2) zo (cs := #[.slice d b.length i, .slice m c.length n]) (t := 26) zh ?_; intro a hg X hbox hb; refine zG4 (eZ (zg_1 HB.o) hb) (hbox) ((by rw [hg]; exact (eV (zg_1 HB.o)) : w.heap.size ≤ a)) ((by rw [hg]; exact (eV (zg_1 HB.o)) : w.heap.size ≤ a)) ?_; clear HB; intro HB Za Zo Zb; clear hb hbox hg) | ((with_reducible refine fP (N := 3) rfl ?_); refine fS zo (N := 3) zo (cs := #[.slice q l.length s, .slice u p.length v]) (t := 26) zh ?_; intro j hg Y hbox hb; refine zG7 (fB (g := a) (o := .cells #[.slice d b.length i, .slice m c.length n] 26 (0, 0)) (zg_3 Za.o) hb) (eZ (zg_2 HB.o Zb.o) hb) (hbox) ((by rw [hg]; exact (eV (zg_2 HB.o Zb.o)) : w.heap.size ≤ j)) ((by rw [hg]; exact (eV (zg_2 HB.o Zb.o)) : w.heap.size ≤ j)) ((by rw [hg]; exact gN (hO (g := a) (o := .cells #[.slice d b.length i, .slice m c.length n] 26 (0, 0)) (zg_3 Za.o)) : a ≠ j)) ((by rw [hg]; exact gT (hO (g := a) (o := .cells #[.slice d b.length i, .slice m c.length n] 26 (0, 0)) (zg_3 Za.o)) : j ≠ a)) ?_; clear Za HB; intro Za HB Zc Zp Zf Zd Ze; clear hb hbox hg; have R := Zd.o; have S := Ze.o; obtain ⟨_, _, _, _⟩ := zb2 Za.o; obtain ⟨_, _, _, _⟩ := zb2 Zc.o) | ((with_reducible refine fJ (f := 21) rfl ?_); refine gU (some 9) rfl rfl Tryz.func21 (by kernel_rfl) rfl #[.slice d b.length i, .slice q l.length s] rfl zq ?_; (with_reducible refine (aN.calls k _ _ b _ _ l false _ ?_ ?_ ?_ ?_ O.o).mono ?_); exact zC (fE Zg.o HB.o); exact Zh.o; exact zC (fE Zi.o HB.o); exact Zj.o; rintro e w' ⟨rfl, ⟨nd, rfl⟩⟩; refine ⟨_, rfl, ?_⟩))
  go_ret
  exact ⟨ze, zg_5 HB.o Zb.o Zf.o⟩
 subst I
 replace H : ((bW.f k c p ()).bind fun x => (some x)) = some r := by rw [if_pos rfl] at H; exact H
 replace H := eW.mp H
 obtain ⟨x, L, H⟩ := H
 replace H : (some x) = some r := H
 have T := zm L; clear L; obtain rfl := fF H
 go_enter Tryz.func11, Tryz.ntmps11
 go_wp2_with (first | ((with_reducible refine fP (N := 2) rfl ?_); refine fS zo (N := 2) zo (cs := #[.slice d b.length i, .slice m c.length n]) (t := 26) zh ?_; intro a hg w6 hbox hb; refine zG4 (eZ (zg_1 HB.o) hb) (hbox) ((by rw [hg]; exact (eV (zg_1 HB.o)) : w.heap.size ≤ a)) ((by rw [hg]; exact (eV (zg_1 HB.o)) : w.heap.size ≤ a)) ?_; clear HB; intro HB Za Zo Zb; clear hb hbox hg) | ((with_reducible refine fP (N := 3) rfl ?_); refine fS zo (N := 3) zo (cs := #[.slice q l.length s, .slice u p.length v]) (t := 26) zh ?_; intro j hg w7 hbox hb; refine zG7 (fB (g := a) (o := .cells #[.slice d b.length i, .slice m c.length n] 26 (0, 0)) (zg_3 Za.o) hb) (eZ (zg_2 HB.o Zb.o) hb) (hbox) ((by rw [hg]; exact (eV (zg_2 HB.o Zb.o)) : w.heap.size ≤ j)) ((by rw [hg]; exact (eV (zg_2 HB.o Zb.o)) : w.heap.size ≤ j)) ((by rw [hg]; exact gN (hO (g := a) (o := .cells #[.slice d b.length i, .slice m c.length n] 26 (0, 0)) (zg_3 Za.o)) : a ≠ j)) ((by rw [hg]; exact gT (hO (g := a) (o := .cells #[.slice d b.length i, .slice m c.length n] 26 (0, 0)) (zg_3 Za.o)) : j ≠ a)) ?_; clear Za HB; intro Za HB Zc Zp Zf Zd Ze; clear hb hbox hg; have U := Zd.o; have V := Ze.o; obtain ⟨_, _, _, _⟩ := zb2 Za.o; obtain ⟨_, _, _, _⟩ := zb2 Zc.o) | ((with_reducible refine fJ (f := 21) rfl ?_); refine gU (some 9) rfl rfl Tryz.func21 (by kernel_rfl) rfl #[.slice d b.length i, .slice q l.length s] rfl zq ?_; (with_reducible refine (aN.calls k _ _ b _ _ l true _ ?_ ?_ ?_ ?_ O.o).mono ?_); exact zC (fE Zg.o HB.o); exact Zh.o; exact zC (fE Zi.o HB.o); exact Zj.o; rintro e w' ⟨rfl, ⟨nd, rfl⟩⟩; refine ⟨_, rfl, ?_⟩) | (go_at_call 22; (with_reducible refine (bW.calls k _ _ c _ _ p () x _ ?_ ?_ ?_ ?_ T.o).mono ?_); exact zC (fE Zk.o (zg_5 HB.o Zb.o Zf.o)); exact Zl.o; exact zC (fE Zm.o (zg_5 HB.o Zb.o Zf.o)); exact Zn.o; rintro e Z ⟨rfl, hb⟩; refine zG3 (fB (g := a) (o := .cells #[.slice d b.length i, .slice m c.length n] 26 (0, 0)) (zg_3 Za.o) hb) (fB (g := j) (o := .cells #[.slice q l.length s, .slice u p.length v] 26 (0, 0)) (zg_3 Zc.o) hb) (eZ (zg_5 HB.o Zb.o Zf.o) hb) ?_; clear Za Zc HB; intro Za Zc HB; (try clear hb); (try clear hb2); (try clear hk); (try clear hi)))
 go_ret
 exact ⟨ze, zg_5 HB.o Zb.o Zf.o⟩
def dI.f (l0 : List Int) (a1 : Int) (a2 : Int) : Option (Int) := if a2 ≤ 1 then (some 0) else (if (l0.length : Int) = 0 then (if a2 = 0 then (none) else (some (iO (wrap64 (a1 * 7)) a2))) else (if 0 ≤ (iO a1 (l0.length : Int)) then (if (iO a1 (l0.length : Int)) < (l0.length : Int) then (if 0 ≤ (iO (wrap64 (a1 + 1)) (l0.length : Int)) then (if (iO (wrap64 (a1 + 1)) (l0.length : Int)) < (l0.length : Int) then (if a2 = 0 then (none) else (some (iO (wrap64 ((wrap64 ((wrap64 ((wrap64 (rd l0 (iO a1 (l0.length : Int)))) * 31)) + (wrap64 (rd l0 (iO (wrap64 (a1 + 1)) (l0.length : Int)))))) + (wrap64 (kM a1 (l0.length : Int))))) a2))) else (none)) else (none)) else (none)) else (none)))
set_option maxHeartbeats 8000000 in
set_option maxRecDepth 100000 in
theorem dI.calls (z : Option Addr) (A : Nat) (a : List Int) (a1 : Int) (a2 : Int) (r : Int) (w : World) (p : Kd.C (fG .u8) w z a.length a) (q : a.length ≤ A) (h : dI.f a a1 a2 = some r) :
    Calls fM 9 #[.slice z a.length A, .int .i64 a1, .int .i64 a2] w fun e w' => e = .returned (.int .i64 r) ∧ Drawn0 w w' := by
 have s := zm p; have N := zm q; clear p q; have H := h
 unfold dI.f at H
 clear h
 by_cases l : a2 ≤ 1
 ·rw [if_pos l] at H
  have t := decide_eq_true l; clear l; obtain rfl := fF H
  go_enter Tryz.func9, Tryz.ntmps9
  go_wp2
  repeat (go_quiet (fail); try go_wp2)
  go_ret
  exact ⟨zr, by repeat (first | exact hJ _ | apply hM)⟩
 rw [if_neg l] at H; have t := decide_eq_false l; clear l
 by_cases b : (a.length : Int) = 0
 ·rw [if_pos b] at H
  have u : ((a.length : Int) == 0) = true := beq_iff_eq.mpr b
  have v : ((a.length : Int) != 0) = false := bne_eq_false_iff_eq.mpr b
  clear b
  by_cases m : a2 = 0
  ·rw [if_pos m] at H
   exact absurd H (by simp)
  rw [if_neg m] at H
  have G : (a2 == 0) = false := beq_eq_false_iff_ne.mpr m
  have I : (a2 != 0) = true := bne_iff_ne.mpr m
  obtain rfl := fF H
  go_enter Tryz.func9, Tryz.ntmps9
  go_wp2
  repeat (go_quiet (fail); try go_wp2)
  go_ret
  exact ⟨zr, by repeat (first | exact hJ _ | apply hM)⟩
 rw [if_neg b] at H
 have u : ((a.length : Int) == 0) = false := beq_eq_false_iff_ne.mpr b
 have v : ((a.length : Int) != 0) = true := bne_iff_ne.mpr b
 have J : ¬ (a = []) := fun h_ => b (by rw [h_]; rfl)
 obtain ⟨ji7, hji7⟩ : ∃ j_ : Int, (iO a1 (a.length : Int)) = j_ := ⟨_, rfl⟩
 replace H : (if 0 ≤ (ji7) then (if (ji7) < (a.length : Int) then (if 0 ≤ (iO (wrap64 (a1 + 1)) (a.length : Int)) then (if (iO (wrap64 (a1 + 1)) (a.length : Int)) < (a.length : Int) then (if a2 = 0 then (none) else (some (iO (wrap64 ((wrap64 ((wrap64 ((wrap64 (rd a (ji7))) * 31)) + (wrap64 (rd a (iO (wrap64 (a1 + 1)) (a.length : Int)))))) + (wrap64 (kM a1 (a.length : Int))))) a2))) else (none)) else (none)) else (none)) else (none)) = some r := by first | (rw [hji7] at H; exact H) | (simp only [hji7] at H ⊢; exact H)
 replace H := zid H; obtain ⟨L, H⟩ := H
 replace H := zid H; obtain ⟨M, H⟩ := H
 obtain ⟨ji10, hji10⟩ : ∃ j_ : Int, (iO (wrap64 (a1 + 1)) (a.length : Int)) = j_ := ⟨_, rfl⟩
 replace H : (if 0 ≤ (ji10) then (if (ji10) < (a.length : Int) then (if a2 = 0 then (none) else (some (iO (wrap64 ((wrap64 ((wrap64 ((wrap64 (rd a (ji7))) * 31)) + (wrap64 (rd a (ji10))))) + (wrap64 (kM a1 (a.length : Int))))) a2))) else (none)) else (none)) = some r := by first | (rw [hji10] at H; exact H) | (simp only [hji10] at H ⊢; exact H)
 replace H := zid H; obtain ⟨B, H⟩ := H
 replace H := zid H; obtain ⟨D, H⟩ := H
 by_cases j : a2 = 0
 ·rw [if_pos j] at H
  exact absurd H (by simp)
 rw [if_neg j] at H
 have E : (a2 == 0) = false := beq_eq_false_iff_ne.mpr j
 have F : (a2 != 0) = true := bne_iff_ne.mpr j
 obtain rfl := fF H
 have c : 0 ≤ ((ji7) : Int) := zd
 have d : (ji7) < (a.length : Int) := zd
 obtain ⟨n, x, hx817_0⟩ := gY s.o (ji7) c d
 cases x; replace c := eq_true c; replace d := eq_true d
 have g : 0 ≤ ((ji10) : Int) := zd
 have i : (ji10) < (a.length : Int) := zd
 obtain ⟨o, y, hx818_0⟩ := gY s.o (ji10) g i
 obtain rfl : n = o := (by injection y)
 replace g := eq_true g; replace i := eq_true i
 go_enter Tryz.func9, Tryz.ntmps9
 go_wp2
 repeat (go_quiet (fail); try go_wp2)
 go_ret
 exact ⟨by first | rfl | (simp; done) | (simp only [← hji7, ← hji10] <;> (first | rfl | simp)) | (simp [*]; done), by repeat (first | exact hJ _ | apply hM)⟩
def bX.l0 : Nat → List ByteArray → List ByteArray → Int → Option (Bool)
  | 0, _, _, _ => none
  | k + 1, x0, x1, x5 => if x5 < (x0.length : Int) then (if 0 ≤ x5 then (if x5 < (x1.length : Int) then (if (rdOf iH x0 x5).toList = (rdOf iH x1 x5).toList then (bX.l0 k x0 x1 (wrap64 (x5 + 1))) else (some false)) else (none)) else (none)) else (some true)
def bX.f (k : Nat) (l0 : List ByteArray) (l1 : List ByteArray) : Option (Bool) := if (l0.length : Int) = (l1.length : Int) then (bX.l0 k l0 l1 0) else (some false)
set_option maxHeartbeats 8000000 in
set_option maxRecDepth 100000 in
theorem bX.calls (k : Nat) (L : Option Addr) (M : Nat) (b : List ByteArray) (N : Option Addr) (F : Nat) (c : List ByteArray) (r : Bool) (w : World) (x : Kd.C gV w L b.length b) (y : b.length ≤ M) (z : Kd.C gV w N c.length c) (A : c.length ≤ F) (h : bX.f k b c = some r) :
    Calls fM 10 #[.slice L b.length M, .slice N c.length F] w fun e w' => e = .returned (.bool r) ∧ Drawn0 w w' := by
 have B := zm x; have T := zm y; clear x y; have D := zm z; have U := zm A; clear z A
 have H : (if (b.length : Int) = (c.length : Int) then (bX.l0 k b c 0) else (some false)) = some r := h
 clear h
 by_cases l : (b.length : Int) = (c.length : Int)
 rotate_left
 ·rw [if_neg l] at H
  have q : ((b.length : Int) == (c.length : Int)) = false := beq_eq_false_iff_ne.mpr l
  have s : ((b.length : Int) != (c.length : Int)) = true := bne_iff_ne.mpr l
  have t : (b.length == c.length) = false := by first | simpa using l | (simp at l ⊢; omega)
  obtain rfl := fF H
  go_enter Tryz.func10, Tryz.ntmps10
  go_wp2
  repeat (go_quiet (fail); try go_wp2)
  go_ret
  exact ⟨zr, by repeat (first | exact hJ _ | apply hM)⟩
 rw [if_pos l] at H
 have q : ((b.length : Int) == (c.length : Int)) = true := beq_iff_eq.mpr l
 have s : ((b.length : Int) != (c.length : Int)) = false := bne_eq_false_iff_eq.mpr l
 have t : (b.length == c.length) = true := by first | simpa using l | (simp at l ⊢; omega)
 clear l
 have H' := zm H
 clear H
 go_enter Tryz.func10, Tryz.ntmps10
 go_wp2
 repeat (go_quiet (fail); try go_wp2)
 go_loopg [5] k (fun kq O w' => ∃ (a : Int), O = .int .i64 a ∧ Aside0 (bX.l0 kq b c a = some r) ∧ Aside0 (kq ≤ k) ∧ Drawn0 w w')
 case atStart => exact ⟨(0), zr, H', ⟨fQ _⟩, by repeat (first | exact hJ _ | apply hM)⟩
 case round =>
  clear H'
  try clear F
  try clear V
  try clear l
  try clear q
  try clear s
  try clear t
  obtain ⟨a, rfl, HA, E, ⟨m1, rfl⟩⟩ := hrel
  cases gk with
  | zero => exact absurd HA.o (by simp [bX.l0])
  | succ k1 =>
   have H := HA.o; clear HA
   simp only [bX.l0] at H
   by_cases p : a < (b.length : Int)
   rotate_left
   ·rw [if_neg p] at H
    have G := decide_eq_false p; clear p; obtain rfl := fF H
    go_wp2
    repeat (go_quiet (fail); try go_wp2)
    go_ret
    exact ⟨zr, by repeat (first | exact hJ _ | apply hM)⟩
   rw [if_pos p] at H; have G := decide_eq_true p; clear p
   replace H := zid H; obtain ⟨R, H⟩ := H
   replace H := zid H; obtain ⟨S, H⟩ := H
   by_cases m : (rdOf iH b a).toList = (rdOf iH c a).toList
   rotate_left
   ·rw [if_neg m] at H
    have I : ((rdOf iH b a).toList == (rdOf iH c a).toList) = false := beq_eq_false_iff_ne.mpr m
    have J : ((rdOf iH b a).toList != (rdOf iH c a).toList) = true := bne_iff_ne.mpr m
    obtain rfl := fF H
    have d : 0 ≤ (a : Int) := zd
    have g : a < (b.length : Int) := zd
    obtain ⟨u, n, hx819_0⟩ := oP B.o a d g
    cases n; replace d := eq_true d; replace g := eq_true g
    have i : 0 ≤ (a : Int) := zd
    have j : a < (c.length : Int) := zd
    obtain ⟨v, o, hx820_0⟩ := oP D.o a i j
    cases o; replace i := eq_true i; replace j := eq_true j
    go_wp2
    repeat (go_quiet (fail); try go_wp2)
    go_ret
    exact ⟨zr, by repeat (first | exact hJ _ | apply hM)⟩
   rw [if_pos m] at H
   have I : ((rdOf iH b a).toList == (rdOf iH c a).toList) = true := beq_iff_eq.mpr m
   have J : ((rdOf iH b a).toList != (rdOf iH c a).toList) = false := bne_eq_false_iff_eq.mpr m
   clear m
   have H' := zm H
   clear H
   have d : 0 ≤ (a : Int) := zd
   have g : a < (b.length : Int) := zd
   obtain ⟨u, n, hx819_0⟩ := oP B.o a d g
   cases n; replace d := eq_true d; replace g := eq_true g
   have i : 0 ≤ (a : Int) := zd
   have j : a < (c.length : Int) := zd
   obtain ⟨v, o, hx820_0⟩ := oP D.o a i j
   cases o; replace i := eq_true i; replace j := eq_true j
   go_wp2
   repeat (go_quiet (fail); try go_wp2)
   go_roundg k1
   case measure => have := E.o; omega
   case rel => exact ⟨(wrap64 (a + 1)), zr, H', ⟨by have := E.o; omega⟩, by repeat (first | exact hJ _ | apply hM)⟩
def dD.f (a0 : Int) (a1 : Int) (a2 : Int) : Option (Bool) := if a1 ≤ a0 then (some (decide (a0 ≤ a2))) else (some false)
set_option maxHeartbeats 8000000 in
set_option maxRecDepth 100000 in
theorem dD.calls (a0 : Int) (a1 : Int) (a2 : Int) (r : Bool) (w : World) (h : dD.f a0 a1 a2 = some r) :
    Calls fM 78 #[.int .i64 a0, .int .i64 a1, .int .i64 a2] w fun e w' => e = .returned (.bool r) ∧ Drawn0 w w' := by
  have H : (if a1 ≤ a0 then (some (decide (a0 ≤ a2))) else (some false)) = some r := h
  clear h
  by_cases a : a1 ≤ a0
  · rw [if_pos a] at H
    have b := decide_eq_true a; clear a; obtain rfl := fF H
    go_enter Tryz.func78, Tryz.ntmps78
    go_wp2
    go_ret
    exact ⟨zr, by repeat (first | exact hJ _ | apply hM)⟩
  rw [if_neg a] at H; have b := decide_eq_false a; clear a; obtain rfl := fF H
  go_enter Tryz.func78, Tryz.ntmps78
  go_wp2
  go_ret
  exact ⟨zr, by repeat (first | exact hJ _ | apply hM)⟩
def bG.l0 : Nat → ByteArray → Int → Option (Bool)
  | 0, _, _ => none
  | k + 1, x0, x3 => if x3 < (x0.size : Int) then (if 0 ≤ x3 then (if (bt x0 x3) < 97 then (some false) else (if (bt x0 x3) > 122 then (some false) else (bG.l0 k x0 (wrap64 (x3 + 1))))) else (none)) else ((dD.f (x0.size : Int) 1 6).bind fun t274 => (some t274))
def bG.f (k : Nat) (a0 : ByteArray) : Option (Bool) := bG.l0 k a0 0
set_option maxHeartbeats 8000000 in
set_option maxRecDepth 100000 in
theorem bG.calls (k : Nat) (a0 : ByteArray) (r : Bool) (w : World) (h : bG.f k a0 = some r) :
    Calls fM 48 #[.string a0] w fun e w' => e = .returned (.bool r) ∧ Drawn0 w w' := by
 have H : (bG.l0 k a0 0) = some r := h
 clear h
 have H' := zm H
 clear H
 go_enter Tryz.func48, Tryz.ntmps48
 go_wp2
 go_loopg [3] k (fun kq t w' => ∃ (a : Int), t = .int .i64 a ∧ Aside0 (bG.l0 kq a0 a = some r) ∧ Aside0 (kq ≤ k) ∧ Drawn0 w w')
 case atStart => exact ⟨(0), zr, H', ⟨fQ _⟩, by repeat (first | exact hJ _ | apply hM)⟩
 case round =>
  clear H'
  obtain ⟨a, rfl, HA, n, ⟨m1, rfl⟩⟩ := hrel
  cases gk with
  | zero => exact absurd HA.o (by simp [bG.l0])
  | succ k1 =>
   have H := HA.o; clear HA
   simp only [bG.l0] at H
   by_cases d : a < (a0.size : Int)
   rotate_left
   ·rw [if_neg d] at H
    have p := decide_eq_false d; clear d; replace H := eW.mp H
    obtain ⟨j, o, H⟩ := H
    replace H : (some j) = some r := H
    have u := zm o; clear o; obtain rfl := fF H
    go_wp2_with (first | ((with_reducible refine fJ (f := 78) rfl ?_); refine gU (some 22) rfl rfl Tryz.func78 (by kernel_rfl) rfl #[.int .i64 (a0.size : Int), .int .i64 1, .int .i64 6] rfl zq ?_; (with_reducible refine (dD.calls (a0.size : Int) 1 6 j _ u.o).mono ?_); rintro e w' ⟨rfl, ⟨nd, rfl⟩⟩; refine ⟨_, rfl, ?_⟩))
    go_ret
    exact ⟨zr, by repeat (first | exact hJ _ | apply hM)⟩
   rw [if_pos d] at H; have p := decide_eq_true d; clear d
   replace H := zid H; obtain ⟨v, H⟩ := H
   by_cases g : (bt a0 a) < 97
   ·rw [if_pos g] at H
    have q := decide_eq_true g; clear g; obtain rfl := fF H
    have b : 0 ≤ (a : Int) := zd
    have c : a < (a0.size : Int) := zd
    have hx4 := bt_at a0 a; replace b := eq_true b; replace c := eq_true c
    go_wp2
    go_ret
    exact ⟨zr, by repeat (first | exact hJ _ | apply hM)⟩
   rw [if_neg g] at H; have q := decide_eq_false g; clear g
   by_cases i : (bt a0 a) > 122
   ·rw [if_pos i] at H
    have s := decide_eq_true i; clear i; obtain rfl := fF H
    have b : 0 ≤ (a : Int) := zd
    have c : a < (a0.size : Int) := zd
    have hx4 := bt_at a0 a; replace b := eq_true b; replace c := eq_true c
    have l : 0 ≤ (a : Int) := zd
    have m : a < (a0.size : Int) := zd
    have hx6 := bt_at a0 a; replace l := eq_true l; replace m := eq_true m
    go_wp2
    go_ret
    exact ⟨zr, by repeat (first | exact hJ _ | apply hM)⟩
   rw [if_neg i] at H; have s := decide_eq_false i; clear i
   have H' := zm H
   clear H
   have b : 0 ≤ (a : Int) := zd
   have c : a < (a0.size : Int) := zd
   have hx4 := bt_at a0 a; replace b := eq_true b; replace c := eq_true c
   have l : 0 ≤ (a : Int) := zd
   have m : a < (a0.size : Int) := zd
   have hx6 := bt_at a0 a; replace l := eq_true l; replace m := eq_true m
   go_wp2
   go_roundg k1
   case measure => have := n.o; omega
   case rel => exact ⟨(wrap64 (a + 1)), zr, H', ⟨by have := n.o; omega⟩, by repeat (first | exact hJ _ | apply hM)⟩
def dH.f (a0 : Int) : Option (Bool) := (dD.f a0 0 2147483647).bind fun t771 => (some t771)
set_option maxHeartbeats 8000000 in
set_option maxRecDepth 100000 in
theorem dH.calls (a0 : Int) (r : Bool) (w : World) (h : dH.f a0 = some r) :
    Calls fM 77 #[.int .i64 a0] w fun e w' => e = .returned (.bool r) ∧ Drawn0 w w' := by
  have H : ((dD.f a0 0 2147483647).bind fun a => (some a)) = some r := h
  clear h; replace H := eW.mp H
  obtain ⟨a, b, H⟩ := H
  replace H : (some a) = some r := H
  have c := zm b; clear b; obtain rfl := fF H
  go_enter Tryz.func77, Tryz.ntmps77
  go_wp2_with (first | ((with_reducible refine fJ (f := 78) rfl ?_); refine gU (some 4) rfl rfl Tryz.func78 (by kernel_rfl) rfl #[.int .i64 a0, .int .i64 0, .int .i64 2147483647] rfl zq ?_; (with_reducible refine (dD.calls a0 0 2147483647 a _ c.o).mono ?_); rintro e w' ⟨rfl, ⟨nd, rfl⟩⟩; refine ⟨_, rfl, ?_⟩))
  go_ret
  exact ⟨zr, by repeat (first | exact hJ _ | apply hM)⟩
def aT.l0 : Nat → List Int → Int → Option (Bool)
  | 0, _, _ => none
  | k + 1, x0, x3 => if x3 < (x0.length : Int) then (if 0 ≤ x3 then ((dH.f (rd x0 x3)).bind fun t773 => (if t773 = true then (aT.l0 k x0 (wrap64 (x3 + 1))) else (some false))) else (none)) else (some (decide ((x0.length : Int) ≤ 12)))
def aT.f (k : Nat) (l0 : List Int) : Option (Bool) := aT.l0 k l0 0
set_option maxHeartbeats 8000000 in
set_option maxRecDepth 100000 in
theorem aT.calls (k : Nat) (u : Option Addr) (v : Nat) (b : List Int) (r : Bool) (w : World) (m : Kd.C (fG .i64) w u b.length b) (n : b.length ≤ v) (h : aT.f k b = some r) :
    Calls fM 47 #[.slice u b.length v] w fun e w' => e = .returned (.bool r) ∧ Drawn0 w w' := by
 have o := zm m; have B := zm n; clear m n
 have H : (aT.l0 k b 0) = some r := h
 clear h
 have H' := zm H
 clear H
 go_enter Tryz.func47, Tryz.ntmps47
 go_wp2
 go_loopg [3] k (fun kq z w' => ∃ (a : Int), z = .int .i64 a ∧ Aside0 (aT.l0 kq b a = some r) ∧ Aside0 (kq ≤ k) ∧ Drawn0 w w')
 case atStart => exact ⟨(0), zr, H', ⟨fQ _⟩, by repeat (first | exact hJ _ | apply hM)⟩
 case round =>
  clear H'
  obtain ⟨a, rfl, HA, p, ⟨m1, rfl⟩⟩ := hrel
  cases gk with
  | zero => exact absurd HA.o (by simp [aT.l0])
  | succ k1 =>
   have H := HA.o; clear HA
   simp only [aT.l0] at H
   by_cases i : a < (b.length : Int)
   rotate_left
   ·rw [if_neg i] at H
    have s := decide_eq_false i; clear i; obtain rfl := fF H
    go_wp2
    go_ret
    exact ⟨zr, by repeat (first | exact hJ _ | apply hM)⟩
   rw [if_pos i] at H; have s := decide_eq_true i; clear i
   replace H := zif H; obtain ⟨x, H⟩ := H; have A := decide_eq_true x; clear x; replace H := eW.mp H
   obtain ⟨t, q, H⟩ := H
   try dsimp only at H
   have y := zm q; clear q
   by_cases j : t = true
   rotate_left
   ·replace j := hN.mpr j
    subst j
    replace H : (some false) = some r := by rw [if_neg (show ¬ (false = true) by decide)] at H; exact H
    obtain rfl := fF H
    have c : 0 ≤ (a : Int) := zd
    have d : a < (b.length : Int) := zd
    obtain ⟨l, g, hx772_0⟩ := gY o.o a c d
    cases g; replace c := eq_true c; replace d := eq_true d
    go_wp2_with (first | ((with_reducible refine fJ (f := 77) rfl ?_); refine gU (some 14) rfl rfl Tryz.func77 (by kernel_rfl) rfl #[.int .i64 (rd b a)] rfl zq ?_; (with_reducible refine (dH.calls (rd b a) false _ y.o).mono ?_); rintro e w' ⟨rfl, ⟨nd, rfl⟩⟩; refine ⟨_, rfl, ?_⟩))
    go_ret
    exact ⟨zr, by repeat (first | exact hJ _ | apply hM)⟩
   subst j
   replace H : (aT.l0 k1 b (wrap64 (a + 1))) = some r := by rw [if_pos rfl] at H; exact H
   have H' := zm H
   clear H
   have c : 0 ≤ (a : Int) := zd
   have d : a < (b.length : Int) := zd
   obtain ⟨l, g, hx772_0⟩ := gY o.o a c d
   cases g; replace c := eq_true c; replace d := eq_true d
   go_wp2_with (first | ((with_reducible refine fJ (f := 77) rfl ?_); refine gU (some 14) rfl rfl Tryz.func77 (by kernel_rfl) rfl #[.int .i64 (rd b a)] rfl zq ?_; (with_reducible refine (dH.calls (rd b a) true _ y.o).mono ?_); rintro e w' ⟨rfl, ⟨nd, rfl⟩⟩; refine ⟨_, rfl, ?_⟩))
   go_roundg k1
   case measure => have := p.o; omega
   case rel => exact ⟨(wrap64 (a + 1)), zr, H', ⟨by have := p.o; omega⟩, by repeat (first | exact hJ _ | apply hM)⟩
mutual
def aG.j0 : Nat → Bool → List Int → List (S53) → Option (Bool)
  | 0, _, _, _ => none
  | k + 1, x14, x775000, x775001 => if x14 = true then (some false) else (aG.l0 k 0 x775000 x775001)
def aG.l0 : Nat → Int → List Int → List (S53) → Option (Bool)
  | 0, _, _, _ => none
  | k + 1, x3, x775000, x775001 => if x3 < (x775001.length : Int) then (if 0 ≤ x3 then ((bG.f k ((aC x775001 x3).f0)).bind fun t777 => (if t777 = true then ((aT.f k ((aC x775001 x3).f1)).bind fun t779 => (aG.j2 k x3 (!t779) x775000 x775001)) else (aG.j2 k x3 true x775000 x775001))) else (none)) else (some true)
def aG.j2 : Nat → Int → Bool → List Int → List (S53) → Option (Bool)
  | 0, _, _, _, _ => none
  | k + 1, x3, x39, x775000, x775001 => if x39 = true then (some false) else (aG.l1 k x3 0 x775000 x775001)
def aG.l1 : Nat → Int → Int → List Int → List (S53) → Option (Bool)
  | 0, _, _, _, _ => none
  | k + 1, x3, x4, x775000, x775001 => if x4 < x3 then (if 0 ≤ x4 then (if x4 < (x775001.length : Int) then (if 0 ≤ x3 then (if x3 < (x775001.length : Int) then (if ((aC x775001 x4).f0).toList = ((aC x775001 x3).f0).toList then (some false) else (aG.l1 k x3 (wrap64 (x4 + 1)) x775000 x775001)) else (none)) else (none)) else (none)) else (none)) else (aG.l0 k (wrap64 (x3 + 1)) x775000 x775001)
end
def aG.f (k : Nat) (l0_0 : List Int) (l0_1 : List (S53)) : Option (Bool) := (aT.f k l0_0).bind fun t775 => (if t775 = true then (aG.j0 k (decide ((l0_1.length : Int) > 3)) l0_0 l0_1) else (aG.j0 k true l0_0 l0_1))
set_option maxHeartbeats 8000000 in
set_option maxRecDepth 100000 in
theorem aG.calls (k : Nat) (l : Option Addr) (m : Nat) (c : List Int) (n : Option Addr) (o : Nat) (a : List (S53)) (r : Bool) (w : World) (a3 : Kd.C (fG .i64) w l c.length c) (a4 : c.length ≤ m) (a5 : Kd.C k53 w n a.length a) (a6 : a.length ≤ o) (h : aG.f k c a = some r) :
    Calls fM 18 #[.agg #[.slice l c.length m, .slice n a.length o]] w fun e w' => e = .returned (.bool r) ∧ Below w.heap.size w w' := by
 have hu26 := iN; have Zf := zm a3; have Zg := zm a4; clear a3 a4; have Zc := zm a5; have Zp := zm a6; clear a5 a6; have HB := zm (fX w.heap.size w); have H := h
 unfold aG.f at H
 clear h; have b0 := zm H; clear H
 go_enter Tryz.func18, Tryz.ntmps18
 go_upto_region 1 with (first | ((with_reducible refine fP (N := 1) rfl ?_); (try (refine kY (by rfl) ?_; dsimp only)); refine fS zo (N := 1) zo (cs := #[.slice l c.length m, .slice n a.length o]) (t := 26) zh ?_; intro g hg w3 hbox hb; refine zG4 (eZ (zg_1 HB.o) hb) (hbox) ((by rw [hg]; exact (eV (zg_1 HB.o)) : w.heap.size ≤ g)) ((by rw [hg]; exact (eV (zg_1 HB.o)) : w.heap.size ≤ g)) ?_; clear HB; intro HB Za Zn Zb; clear hb hbox hg))
 repeat (go_quiet (first | ((with_reducible refine fP (N := 1) rfl ?_); (try (refine kY (by rfl) ?_; dsimp only)); refine fS zo (N := 1) zo (cs := #[.slice l c.length m, .slice n a.length o]) (t := 26) zh ?_; intro g hg w3 hbox hb; refine zG4 (eZ (zg_1 HB.o) hb) (hbox) ((by rw [hg]; exact (eV (zg_1 HB.o)) : w.heap.size ≤ g)) ((by rw [hg]; exact (eV (zg_1 HB.o)) : w.heap.size ≤ g)) ?_; clear HB; intro HB Za Zn Zb; clear hb hbox hg)); go_upto_region 1 with (first | ((with_reducible refine fP (N := 1) rfl ?_); (try (refine kY (by rfl) ?_; dsimp only)); refine fS zo (N := 1) zo (cs := #[.slice l c.length m, .slice n a.length o]) (t := 26) zh ?_; intro g hg w3 hbox hb; refine zG4 (eZ (zg_1 HB.o) hb) (hbox) ((by rw [hg]; exact (eV (zg_1 HB.o)) : w.heap.size ≤ g)) ((by rw [hg]; exact (eV (zg_1 HB.o)) : w.heap.size ≤ g)) ?_; clear HB; intro HB Za Zn Zb; clear hb hbox hg)))
 (try simp only [gE, zs, zz, zt])
 go_cut [14] (fun d5 wc => ∃ (kq : Nat) (A : Bool), d5 = .bool A ∧ Aside0 (aG.j0 kq A c a = some r) ∧ Aside0 (kq ≤ k) ∧ Aside0 (wc.heap[g]? = some (.cells #[(.slice l c.length m), (.slice n a.length o)] 26 (0, 0))) ∧ Aside0 (Below w.heap.size w wc))
 case first =>
  have H := b0.o; clear b0; replace H := eW.mp H
  obtain ⟨d1, d0, H⟩ := H
  try dsimp only at H
  have A4 := zm d0; clear d0
  by_cases S : d1 = true
  ·subst S
   replace H : (aG.j0 k (decide ((a.length : Int) > 3)) c a) = some r := by rw [if_pos rfl] at H; exact H
   have H' := zm H
   clear H
   obtain ⟨_, _, _, _⟩ := zb2 Za.o
   go_wp2_with (first | (go_at_call 47; (with_reducible refine (aT.calls k _ _ c true _ ?_ ?_ A4.o).mono ?_); exact zC (fE Zf.o HB.o); exact Zg.o; rintro e w' ⟨rfl, ⟨nd, rfl⟩⟩; (try exact zn)))
   repeat (go_quiet (first | (go_at_call 47; (with_reducible refine (aT.calls k _ _ c true _ ?_ ?_ A4.o).mono ?_); exact zC (fE Zf.o HB.o); exact Zg.o; rintro e w' ⟨rfl, ⟨nd, rfl⟩⟩; (try exact zn))); try go_wp2_with (first | (go_at_call 47; (with_reducible refine (aT.calls k _ _ c true _ ?_ ?_ A4.o).mono ?_); exact zC (fE Zf.o HB.o); exact Zg.o; rintro e w' ⟨rfl, ⟨nd, rfl⟩⟩; (try exact zn))))
   go_meet
   case rel => exact ⟨_, (decide ((a.length : Int) > 3)), zr, H', ⟨by first | omega | exact fQ _⟩, ⟨zl Za.o⟩, ⟨zg_2 HB.o Zb.o⟩⟩
  replace S := hN.mpr S; subst S
  replace H : (aG.j0 k true c a) = some r := by rw [if_neg (show ¬ (false = true) by decide)] at H; exact H
  have H' := zm H
  clear H
  obtain ⟨_, _, _, _⟩ := zb2 Za.o
  go_wp2_with (first | (go_at_call 47; (with_reducible refine (aT.calls k _ _ c false _ ?_ ?_ A4.o).mono ?_); exact zC (fE Zf.o HB.o); exact Zg.o; rintro e w' ⟨rfl, ⟨nd, rfl⟩⟩; (try exact zn)))
  repeat (go_quiet (first | (go_at_call 47; (with_reducible refine (aT.calls k _ _ c false _ ?_ ?_ A4.o).mono ?_); exact zC (fE Zf.o HB.o); exact Zg.o; rintro e w' ⟨rfl, ⟨nd, rfl⟩⟩; (try exact zn))); try go_wp2_with (first | (go_at_call 47; (with_reducible refine (aT.calls k _ _ c false _ ?_ ?_ A4.o).mono ?_); exact zC (fE Zf.o HB.o); exact Zg.o; rintro e w' ⟨rfl, ⟨nd, rfl⟩⟩; (try exact zn))))
  go_meet
  case rel => exact ⟨_, (true), zr, H', ⟨by first | omega | exact fQ _⟩, ⟨zl Za.o⟩, ⟨zg_2 HB.o Zb.o⟩⟩
 case rest =>
  clear b0
  try clear c1
  try clear p2
  try clear S
  obtain ⟨kq, A, rfl, HA, HJ1, Za, HB⟩ := hcut
  cases kq with
  | zero => exact absurd HA.o (by simp [aG.j0])
  | succ b1 =>
   have H := HA.o; clear HA
   simp only [aG.j0] at H
   by_cases Y : A = true
   ·subst Y
    replace H : (some false) = some r := by rw [if_pos rfl] at H; exact H
    obtain rfl := fF H
    go_wp2
    repeat (go_quiet (fail); try go_wp2)
    go_ret
    exact ⟨ze, zg_2 HB.o Zb.o⟩
   replace Y := hN.mpr Y; subst Y
   replace H : (aG.l0 b1 0 c a) = some r := by rw [if_neg (show ¬ (false = true) by decide)] at H; exact H
   have H' := zm H
   clear H
   go_wp2
   repeat (go_quiet (fail); try go_wp2)
   go_loopg [3] b1 (fun kq v3 w' => ∃ (b : Int), v3 = .int .i64 b ∧ Aside0 (aG.l0 kq b c a = some r) ∧ Aside0 (kq ≤ b1) ∧ Aside0 (w'.heap[g]? = some (.cells #[(.slice l c.length m), (.slice n a.length o)] 26 (0, 0))) ∧ Aside0 (Below w.heap.size w w'))
   case atStart => exact ⟨(0), zr, H', ⟨fQ _⟩, ⟨zl Za.o⟩, ⟨zg_2 HB.o Zb.o⟩⟩
   case round =>
    clear H'
    try clear c1
    try clear p2
    try clear S
    try clear Y
    try clear p2
    obtain ⟨b, rfl, HA, I, Za, HB⟩ := hrel
    cases gk with
    | zero => exact absurd HA.o (by simp [aG.l0])
    | succ k2 =>
     have H := HA.o; clear HA
     simp only [aG.l0] at H
     by_cases T : b < (a.length : Int)
     rotate_left
     ·rw [if_neg T] at H
      have Z := decide_eq_false T; clear T; obtain rfl := fF H
      obtain ⟨_, _, _, _⟩ := zb2 Za.o
      go_wp2
      repeat (go_quiet (fail); try go_wp2)
      go_ret
      exact ⟨ze, zg_2 HB.o Zb.o⟩
     rw [if_pos T] at H; have Z := decide_eq_true T; clear T; have Zo := zm H; clear H
     obtain ⟨_, _, _, _⟩ := zb2 Za.o
     go_upto_region 6 with (fail)
     repeat (go_quiet (fail); go_upto_region 6 with (fail))
     go_cut [39] (fun d6 wc => ∃ (kq : Nat) (B : Bool), d6 = .bool B ∧ Aside0 (aG.j2 kq b B c a = some r) ∧ Aside0 (kq ≤ k2) ∧ Aside0 (wc.heap[g]? = some (.cells #[(.slice l c.length m), (.slice n a.length o)] 26 (0, 0))) ∧ Aside0 (Below w.heap.size w wc))
     case first =>
      have H := Zo.o; clear Zo
      replace H := zid H; obtain ⟨D, H⟩ := H
      (first | rw [D] | (simp only [iQ, jF]; rw [D]) | skip)
      replace H := eW.mp H
      obtain ⟨d3, b2, H⟩ := H
      try dsimp only at H
      have J := zm b2; clear b2
      by_cases L : d3 = true
      rotate_left
      ·replace L := hN.mpr L
       subst L
       replace H : (aG.j2 k2 b true c a) = some r := by rw [if_neg (show ¬ (false = true) by decide)] at H; exact H
       have H' := zm H
       clear H
       obtain ⟨_, _, _, _⟩ := zb2 Za.o
       have p : 0 ≤ (b : Int) := zd
       have q : b < (a.length : Int) := zd
       obtain ⟨E, b3, b4, a0, hx776_0, hx776_1, hl776_1, hi776_1⟩ := at_T53 Zc.o b p q
       cases a0; replace hx776_0 := (HB.o.cell (eU w _ hx776_0)).trans hx776_0; replace hx776_1 := (HB.o.cell (eU w _ hx776_1)).trans hx776_1; have Zh := zm hi776_1; have Zi := zm hl776_1; clear hi776_1 hl776_1; replace p := eq_true p; replace q := eq_true q
       go_wp2_with (first | (go_at_call 48; (with_reducible refine (bG.calls k2 ((aC a b).f0) false _ J.o).mono ?_); rintro e w' ⟨rfl, ⟨nd, rfl⟩⟩; (try exact zn)))
       repeat (go_quiet (first | (go_at_call 48; (with_reducible refine (bG.calls k2 ((aC a b).f0) false _ J.o).mono ?_); rintro e w' ⟨rfl, ⟨nd, rfl⟩⟩; (try exact zn))); try go_wp2_with (first | (go_at_call 48; (with_reducible refine (bG.calls k2 ((aC a b).f0) false _ J.o).mono ?_); rintro e w' ⟨rfl, ⟨nd, rfl⟩⟩; (try exact zn))))
       go_meet
       case rel => exact ⟨_, (true), zr, H', ⟨by have := HJ1.o; have := I.o; first | omega | exact fQ _⟩, ⟨zl Za.o⟩, ⟨zg_2 HB.o Zb.o⟩⟩
      subst L
      replace H : ((aT.f k2 ((aC a b).f1)).bind fun z => (aG.j2 k2 b (!z) c a)) = some r := by rw [if_pos rfl] at H; exact H
      replace H := eW.mp H
      obtain ⟨z, b5, H⟩ := H
      try dsimp only at H
      have b6 := zm b5; clear b5
      have H' := zm H
      clear H
      obtain ⟨_, _, _, _⟩ := zb2 Za.o
      have p : 0 ≤ (b : Int) := zd
      have q : b < (a.length : Int) := zd
      obtain ⟨E, b3, b4, a0, hx776_0, hx776_1, hl776_1, hi776_1⟩ := at_T53 Zc.o b p q
      cases a0; replace hx776_0 := (HB.o.cell (eU w _ hx776_0)).trans hx776_0; replace hx776_1 := (HB.o.cell (eU w _ hx776_1)).trans hx776_1; have Zh := zm hi776_1; have Zi := zm hl776_1; clear hi776_1 hl776_1; replace p := eq_true p; replace q := eq_true q
      go_wp2_with (first | (go_at_call 48; (with_reducible refine (bG.calls k2 ((aC a b).f0) true _ J.o).mono ?_); rintro e w' ⟨rfl, ⟨nd, rfl⟩⟩; (try exact zn); have i : 0 ≤ (b : Int) := zd; have j : b < (a.length : Int) := zd; obtain ⟨y, U, V, F, hx778_0, hx778_1, hl778_1, hi778_1⟩ := at_T53 Zc.o b i j; obtain rfl : E = y := (by injection F); replace hx778_0 := (HB.o.cell (eU w _ hx778_0)).trans hx778_0; replace hx778_1 := (HB.o.cell (eU w _ hx778_1)).trans hx778_1; have Zd := zm hi778_1; have Ze := zm hl778_1; clear hi778_1 hl778_1; replace i := eq_true i; replace j := eq_true j; have ea_ := fF (hx776_1.symm.trans hx778_1); injection ea_ with ea_ en_ ec_; subst ea_; subst ec_; clear en_) | (go_at_call 47; (with_reducible refine (aT.calls k2 _ _ ((aC a b).f1) z _ ?_ ?_ b6.o).mono ?_); exact zC (fE Zd.o (zg_2 HB.o Zb.o)); exact Ze.o; rintro e w' ⟨rfl, ⟨nd, rfl⟩⟩; (try exact zn)))
      repeat (go_quiet (first | (go_at_call 48; (with_reducible refine (bG.calls k2 ((aC a b).f0) true _ J.o).mono ?_); rintro e w' ⟨rfl, ⟨nd, rfl⟩⟩; (try exact zn); have i : 0 ≤ (b : Int) := zd; have j : b < (a.length : Int) := zd; obtain ⟨y, U, V, F, hx778_0, hx778_1, hl778_1, hi778_1⟩ := at_T53 Zc.o b i j; obtain rfl : E = y := (by injection F); replace hx778_0 := (HB.o.cell (eU w _ hx778_0)).trans hx778_0; replace hx778_1 := (HB.o.cell (eU w _ hx778_1)).trans hx778_1; have Zd := zm hi778_1; have Ze := zm hl778_1; clear hi778_1 hl778_1; replace i := eq_true i; replace j := eq_true j; have ea_ := fF (hx776_1.symm.trans hx778_1); injection ea_ with ea_ en_ ec_; subst ea_; subst ec_; clear en_) | (go_at_call 47; (with_reducible refine (aT.calls k2 _ _ ((aC a b).f1) z _ ?_ ?_ b6.o).mono ?_); exact zC (fE Zd.o (zg_2 HB.o Zb.o)); exact Ze.o; rintro e w' ⟨rfl, ⟨nd, rfl⟩⟩; (try exact zn))); try go_wp2_with (first | (go_at_call 48; (with_reducible refine (bG.calls k2 ((aC a b).f0) true _ J.o).mono ?_); rintro e w' ⟨rfl, ⟨nd, rfl⟩⟩; (try exact zn); have i : 0 ≤ (b : Int) := zd; have j : b < (a.length : Int) := zd; obtain ⟨y, U, V, F, hx778_0, hx778_1, hl778_1, hi778_1⟩ := at_T53 Zc.o b i j; obtain rfl : E = y := (by injection F); replace hx778_0 := (HB.o.cell (eU w _ hx778_0)).trans hx778_0; replace hx778_1 := (HB.o.cell (eU w _ hx778_1)).trans hx778_1; have Zd := zm hi778_1; have Ze := zm hl778_1; clear hi778_1 hl778_1; replace i := eq_true i; replace j := eq_true j; have ea_ := fF (hx776_1.symm.trans hx778_1); injection ea_ with ea_ en_ ec_; subst ea_; subst ec_; clear en_) | (go_at_call 47; (with_reducible refine (aT.calls k2 _ _ ((aC a b).f1) z _ ?_ ?_ b6.o).mono ?_); exact zC (fE Zd.o (zg_2 HB.o Zb.o)); exact Ze.o; rintro e w' ⟨rfl, ⟨nd, rfl⟩⟩; (try exact zn))))
      go_meet
      case rel => exact ⟨_, (!z), zr, H', ⟨by have := HJ1.o; have := I.o; first | omega | exact fQ _⟩, ⟨zl Za.o⟩, ⟨zg_2 HB.o Zb.o⟩⟩
     case rest =>
      clear Zo
      try clear c1
      try clear p2
      try clear S
      try clear c7
      try clear p7
      try clear q7
      try clear hx7
      try clear Y
      try clear T
      try clear Z
      try clear d9
      try clear D
      try clear L
      try clear hx776_0
      try clear hx776_1
      try clear hx778_0
      try clear hx778_1
      try clear p2
      try clear p
      try clear i
      try clear q
      try clear j
      obtain ⟨kq, B, rfl, HA, HJ9, Za, HB⟩ := hcut
      cases kq with
      | zero => exact absurd HA.o (by simp [aG.j2])
      | succ b7 =>
       have H := HA.o; clear HA
       simp only [aG.j2] at H
       by_cases X : B = true
       ·subst X
        replace H : (some false) = some r := by rw [if_pos rfl] at H; exact H
        obtain rfl := fF H
        go_wp2
        repeat (go_quiet (fail); try go_wp2)
        go_ret
        exact ⟨ze, zg_2 HB.o Zb.o⟩
       replace X := hN.mpr X; subst X
       replace H : (aG.l1 b7 b 0 c a) = some r := by rw [if_neg (show ¬ (false = true) by decide)] at H; exact H
       have H' := zm H
       clear H
       go_wp2
       repeat (go_quiet (fail); try go_wp2)
       go_loopg [4] b7 (fun kq v4 w' => ∃ (d : Int), v4 = .int .i64 d ∧ Aside0 (aG.l1 kq b d c a = some r) ∧ Aside0 (kq ≤ b7) ∧ Aside0 (w'.heap[g]? = some (.cells #[(.slice l c.length m), (.slice n a.length o)] 26 (0, 0))) ∧ Aside0 (Below w.heap.size w w'))
       case atStart => exact ⟨(0), zr, H', ⟨fQ _⟩, ⟨zl Za.o⟩, ⟨zg_2 HB.o Zb.o⟩⟩
       case round =>
        clear H'
        try clear c1
        try clear p2
        try clear S
        try clear c7
        try clear p7
        try clear q7
        try clear hx7
        try clear Y
        try clear T
        try clear Z
        try clear d9
        try clear D
        try clear L
        try clear X
        try clear hx776_0
        try clear hx776_1
        try clear hx778_0
        try clear hx778_1
        try clear p2
        try clear p7
        try clear p
        try clear i
        try clear q7
        try clear q
        try clear j
        obtain ⟨d, rfl, HA, a7, Za, HB⟩ := hrel
        cases gk with
        | zero => exact absurd HA.o (by simp [aG.l1])
        | succ k4 =>
         have H := HA.o; clear HA
         simp only [aG.l1] at H
         by_cases M : d < b
         rotate_left
         ·rw [if_neg M] at H
          have c3 := decide_eq_false M; clear M
          have H' := zm H
          clear H
          go_wp2
          repeat (go_quiet (fail); try go_wp2)
          go_roundg k4
          case measure => have := HJ1.o; have := I.o; have := HJ9.o; have := a7.o; omega
          case rel => exact ⟨(wrap64 (b + 1)), zr, H', ⟨by have := HJ1.o; have := I.o; have := HJ9.o; have := a7.o; omega⟩, ⟨zl Za.o⟩, ⟨zg_2 HB.o Zb.o⟩⟩
         rw [if_pos M] at H; have c3 := decide_eq_true M; clear M
         replace H := zid H; obtain ⟨e0, H⟩ := H
         replace H := zid H; obtain ⟨e1, H⟩ := H
         replace H := zid H; obtain ⟨e2, H⟩ := H
         replace H := zid H; obtain ⟨e3, H⟩ := H
         by_cases G : ((aC a d).f0).toList = ((aC a b).f0).toList
         ·rw [if_pos G] at H
          have c4 : (((aC a d).f0).toList == ((aC a b).f0).toList) = true := beq_iff_eq.mpr G
          have c6 : (((aC a d).f0).toList != ((aC a b).f0).toList) = false := bne_eq_false_iff_eq.mpr G
          clear G; obtain rfl := fF H
          obtain ⟨_, _, _, _⟩ := zb2 Za.o
          have s : 0 ≤ (d : Int) := zd
          have u : d < (a.length : Int) := zd
          obtain ⟨O, b8, b9, a1, hx780_0, hx780_1, hl780_1, hi780_1⟩ := at_T53 Zc.o d s u
          cases a1; replace hx780_0 := (HB.o.cell (eU w _ hx780_0)).trans hx780_0; replace hx780_1 := (HB.o.cell (eU w _ hx780_1)).trans hx780_1; have Zj := zm hi780_1; have Zk := zm hl780_1; clear hi780_1 hl780_1; replace s := eq_true s; replace u := eq_true u
          have v : 0 ≤ (b : Int) := zd
          have x : b < (a.length : Int) := zd
          obtain ⟨R, c0, c2, a2, hx781_0, hx781_1, hl781_1, hi781_1⟩ := at_T53 Zc.o b v x
          obtain rfl : O = R := (by injection a2)
          (try (have ea_ := fF (hx781_1.symm.trans hw780_1); injection ea_ with ea_ en_ ec_; subst ea_; subst ec_))
          replace hx781_0 := (HB.o.cell (eU w _ hx781_0)).trans hx781_0; replace hx781_1 := (HB.o.cell (eU w _ hx781_1)).trans hx781_1; have Zl := zm hi781_1; have Zm := zm hl781_1; clear hi781_1 hl781_1; replace v := eq_true v; replace x := eq_true x
          go_wp2
          repeat (go_quiet (fail); try go_wp2)
          go_ret
          exact ⟨ze, zg_2 HB.o Zb.o⟩
         rw [if_neg G] at H
         have c4 : (((aC a d).f0).toList == ((aC a b).f0).toList) = false := beq_eq_false_iff_ne.mpr G
         have c6 : (((aC a d).f0).toList != ((aC a b).f0).toList) = true := bne_iff_ne.mpr G
         have H' := zm H
         clear H
         obtain ⟨_, _, _, _⟩ := zb2 Za.o
         have s : 0 ≤ (d : Int) := zd
         have u : d < (a.length : Int) := zd
         obtain ⟨O, b8, b9, a1, hx780_0, hx780_1, hl780_1, hi780_1⟩ := at_T53 Zc.o d s u
         cases a1; replace hx780_0 := (HB.o.cell (eU w _ hx780_0)).trans hx780_0; replace hx780_1 := (HB.o.cell (eU w _ hx780_1)).trans hx780_1; have Zj := zm hi780_1; have Zk := zm hl780_1; clear hi780_1 hl780_1; replace s := eq_true s; replace u := eq_true u
         have v : 0 ≤ (b : Int) := zd
         have x : b < (a.length : Int) := zd
         obtain ⟨R, c0, c2, a2, hx781_0, hx781_1, hl781_1, hi781_1⟩ := at_T53 Zc.o b v x
         obtain rfl : O = R := (by injection a2)
         (try (have ea_ := fF (hx781_1.symm.trans hw780_1); injection ea_ with ea_ en_ ec_; subst ea_; subst ec_))
         replace hx781_0 := (HB.o.cell (eU w _ hx781_0)).trans hx781_0; replace hx781_1 := (HB.o.cell (eU w _ hx781_1)).trans hx781_1; have Zl := zm hi781_1; have Zm := zm hl781_1; clear hi781_1 hl781_1; replace v := eq_true v; replace x := eq_true x
         go_wp2
         repeat (go_quiet (fail); try go_wp2)
         go_roundg k4
         case measure => have := HJ1.o; have := I.o; have := HJ9.o; have := a7.o; omega
         case rel => exact ⟨(wrap64 (d + 1)), zr, H', ⟨by have := HJ1.o; have := I.o; have := HJ9.o; have := a7.o; omega⟩, ⟨zl Za.o⟩, ⟨zg_2 HB.o Zb.o⟩⟩
def bH.f : Nat → Int → Option (ByteArray)
  | 0, _ => none
  | k + 1, a0 => if a0 = (-9223372036854775808) then (some (⟨#[45, 57, 50, 50, 51, 51, 55, 50, 48, 51, 54, 56, 53, 52, 55, 55, 53, 56, 48, 56]⟩ : ByteArray)) else (if a0 < 0 then ((bH.f k (wrap64 (-a0))).bind fun t782 => (if 1 + t782.size ≤ 9223372036854775807 then (some ((⟨#[45]⟩ : ByteArray) ++ t782)) else (none))) else (if a0 < 10 then (some (strOfNums (([(wrap64 (48 + a0)) % 256] : List Int)))) else ((bH.f k (wrap64 (kM a0 10))).bind fun t786 => ((some (([(wrap64 (48 + (iO a0 10))) % 256] : List Int) : List Int)).bind fun y787 => (if t786.size + (strOfNums y787).size ≤ 9223372036854775807 then (some (t786 ++ (strOfNums y787))) else (none))))))
def bH.T7 : Bool × List (List Nat × List Nat) := (true, [([], []), ([0], [0]), ([1], [1]), ([], []), ([3], [3]), ([4], [4]), ([5], [5]), ([6], [6]), ([7], [7]), ([2, 8], [2, 8]), ([9, 2, 0, 1, 2, 3, 4, 5, 6, 7, 8, 9], [9])])
def bH.B7 : List Nat := [0, 1, 3, 0, 8, 24, 56, 120, 248, 511, 1023]
theorem bH.tab7 : rtab .any (opsOf Tryz.f79 7) = bH.T7 := by kernel_rfl
theorem bH.bits7 : waitsOk bH.T7.2 bH.B7 = true := by kernel_rfl
set_option maxHeartbeats 8000000 in
set_option maxRecDepth 100000 in
theorem bH.calls (k : Nat) : ∀ (a0 : Int) (r : ByteArray) (w : World) (h : bH.f k a0 = some r),
    Calls fM 79 #[.int .i64 a0] w fun e w' => e = .returned (.string r) ∧ Below w.heap.size w w' := by
 induction k using Nat.strongRecOn with
 | _ k ih =>
 intro a0 r w h
 cases k with
 | zero => exact absurd h (by simp [bH.f])
 | succ k =>
 simp only [bH.f] at h
 have HB := zm (fX w.heap.size w); have H := h; clear h
 by_cases t : a0 = (-9223372036854775808)
 ·rw [if_pos t] at H
  have F : (a0 == (-9223372036854775808)) = true := beq_iff_eq.mpr t
  have G : (a0 != (-9223372036854775808)) = false := bne_eq_false_iff_eq.mpr t
  clear t; obtain rfl := fF H
  go_enter mW, Tryz.ntmps79
  go_wp2
  go_ret
  exact ⟨ze, zg_1 HB.o⟩
 rw [if_neg t] at H
 have F : (a0 == (-9223372036854775808)) = false := beq_eq_false_iff_ne.mpr t
 have G : (a0 != (-9223372036854775808)) = true := bne_iff_ne.mpr t
 by_cases x : a0 < 0
 ·rw [if_pos x] at H
  have I := decide_eq_true x; clear x; replace H := eW.mp H
  obtain ⟨z, D, H⟩ := H
  try dsimp only at H
  have Y := zm D; clear D
  replace H := zif H; obtain ⟨J, H⟩ := H; have Z := eq_true J; have a1 := decide_eq_true J
  try have a2 : (9223372036854775807 < 1 + z.size) = False := eq_false (Nat.not_lt.2 J)
  obtain rfl := fF H
  go_enter mW, Tryz.ntmps79
  go_wp2_with (first | ((with_reducible refine fJ (f := 79) rfl ?_); refine gU (some 9) rfl rfl mW (by kernel_rfl) rfl #[.int .i64 (wrap64 (-a0))] rfl zq ?_; (with_reducible refine (ih k (by omega) (wrap64 (-a0)) z _ Y.o).mono ?_); rintro e w6 ⟨rfl, hb⟩; refine ⟨_, rfl, ?_⟩; refine zG1 (eZ (zg_1 HB.o) hb) ?_; clear HB; intro HB; (try clear hb); (try clear hb2); (try clear hk); (try clear hi)))
  go_ret
  exact ⟨ze, zg_1 HB.o⟩
 rw [if_neg x] at H; have I := decide_eq_false x; clear x
 by_cases y : a0 < 10
 ·rw [if_pos y] at H
  have L := decide_eq_true y; clear y
  obtain ⟨O, p⟩ : ∃ y_ : List Int, y_ = (([(wrap64 (48 + a0)) % 256] : List Int)) := ⟨_, rfl⟩
  replace H : (some (strOfNums O)) = some r := zy H p
  have u := zm p; clear p; obtain rfl := fF H
  go_enter mW, Tryz.ntmps79
  go_wp2_with (first | ((with_reducible refine fP (N := 16) rfl ?_); refine lT (fG .u8) _ 5 ?hg (N := 16) ?hd (xs := ([(wrap64 (48 + a0)) % 256] : List Int)) (inner := [.int .u8 ((wrap64 (48 + a0)) % 256)]) (ok := fun _ => True) (okp := fun _ => True) ?hr ?hp (fun _ hk => hk) trivial (fX _ _) (fQ _) (by simp) ?_; (case hd => rfl); (case hg => rfl); (case hr => first | (go_simp; done) | (go_simp; rfl)); (case hp => exact (lS (show Kd.M (fG .u8) _ _ _ ((wrap64 (48 + a0)) % 256) [.int .u8 ((wrap64 (48 + a0)) % 256)] from rfl) (jD _ _))); intro a3 w8 s hb hg_ hnew_; clear hg_ hnew_; (first | rw [← u.o] at s | (simp only [gX] at s; rw [← u.o] at s)); refine zG2 (fL s (eV (zg_1 HB.o))) (eZ (zg_1 HB.o) hb) ?_; clear HB; intro Zb HB; clear hb s; have hcv10 := own_string (P := fM) oS nU Tryz.underlying9 (Kd.own_of_R Zb.o)))
  go_ret
  exact ⟨ze, zg_1 HB.o⟩
 rw [if_neg y] at H; have L := decide_eq_false y; clear y; replace H := eW.mp H
 obtain ⟨c, A, H⟩ := H
 try dsimp only at H
 have B := zm A; clear A
 obtain ⟨d, q⟩ : ∃ y_ : List Int, y_ = (([(wrap64 (48 + (iO a0 10))) % 256] : List Int)) := ⟨_, rfl⟩
 replace H : (if c.size + (strOfNums d).size ≤ 9223372036854775807 then (some (c ++ (strOfNums d))) else (none)) = some r := zy H q
 have l := zm q; clear q
 replace H := zif H; obtain ⟨C, H⟩ := H; have U := eq_true C; have V := decide_eq_true C
 try have X : (9223372036854775807 < c.size + (strOfNums d).size) = False := eq_false (Nat.not_lt.2 C)
 obtain rfl := fF H
 go_enter mW, Tryz.ntmps79
 try go_wp2
 have a := zm (gA HB.o); clear HB; have HB := a; clear a
 refine start_ (n := 11) (S := fun w' => True) (ds := []) #[ff, ff, ff, ff, ff, ff, ff, ff, ff, ff, ff] (by kernel_rfl) rfl rfl trivial (fun hHeld => ?_); refine with_tabW bH.tab7 bH.bits7 (fun HT_ HW_ => ?_)
 generalize w.drew = a4 at HB hHeld ⊢
 refine gR (i := 0) (N := some 18) #[tt, ff, ff, ff, ff, ff, ff, ff, ff, ff, ff] rfl rfl (gD HT_.o zk) (fun _ _ _ h => h) (.inl ⟨by rfl, zi⟩) zu ?_
 refine gR (i := 1) (N := some 19) #[tt, tt, ff, ff, ff, ff, ff, ff, ff, ff, ff] rfl rfl (gD HT_.o zk) (fun _ _ _ h => h) (.inl ⟨by rfl, zi⟩) zu ?_
 refine gR (i := 3) (N := some 21) #[tt, tt, ff, tt, ff, ff, ff, ff, ff, ff, ff] rfl rfl (gD HT_.o zk) (fun _ _ _ h => h) (.inl ⟨by rfl, zi⟩) zu ?_
 refine gR (i := 4) (N := some 22) #[tt, tt, ff, tt, tt, ff, ff, ff, ff, ff, ff] rfl rfl (gD HT_.o zk) (fun _ _ _ h => h) (.inl ⟨by rfl, zi⟩) zu ?_
 refine gR (i := 5) (N := some 23) #[tt, tt, ff, tt, tt, tt, ff, ff, ff, ff, ff] rfl rfl (gD HT_.o zk) (fun _ _ _ h => h) (.inl ⟨by rfl, zi⟩) zu ?_
 refine gR (i := 6) (N := some 24) #[tt, tt, ff, tt, tt, tt, tt, ff, ff, ff, ff] rfl rfl (gD HT_.o zk) (fun _ _ _ h => h) (.inl ⟨by rfl, zi⟩) zu ?_
 refine join_ (σ := Value) 2 #[tt, tt, tt, tt, tt, tt, tt, tt, tt, ff, ff] (fun s_ => [(20, .string c), (25, s_), (26, .string (strOfNums d))]) (fun s_ w' => (Kd.R (fG .u8) 5 w' w.heap.size (fun _ => True) s_ d) ∧ (Below w.heap.size w w')) ?_ ?_
 rotate_left
 ·intro hCont
  refine two_ (i := 2) (j := 7) (Ni := some 20) (Nj := some 25) #[tt, tt, tt, tt, tt, tt, tt, ff, ff, ff, ff] #[tt, tt, ff, tt, tt, tt, tt, tt, ff, ff, ff] rfl rfl rfl rfl (two_of HT_.o zk) (by decide) (by decide) (fun K hK => ?_) (fun K hK => ?_)
  ·skip
   refine goes_ mW (by kernel_rfl) rfl #[.int .i64 (wrap64 (kM a0 10))] (by rfl) rfl rfl zq ?_
   with_reducible refine (ih k (by omega) (wrap64 (kM a0 10)) c _ B.o).mono ?_
   rintro e T ⟨rfl, hb⟩
   refine ⟨_, rfl, ?_⟩
   have a := zm (eZ (zg_1 HB.o) hb); clear HB; have HB := a; clear a
   (try clear hb)
   (try clear hb2)
   (try clear hk)
   (try clear hi)
   refine hK.out _ _ trivial (fun hHeld => ?_)
   clear hK K
   refine jV (a' := ?_) ?_ ?_
   rotate_left
   ·show gE _ (some 20) _ = _
    simp only [gE, zs, zz, zt, iQ, jF]
    rfl
   refine one_ (i := 7) (N := some 25) #[tt, tt, tt, tt, tt, tt, tt, tt, ff, ff, ff] rfl rfl (iS HT_.o zk) (by decide) (fun K hK => ?_)
   refine nB (fG .u8) _ 5 ?hg (N := 25) ?hd (xs := ([(wrap64 (48 + (iO a0 10))) % 256] : List Int)) (inner := [.int .u8 ((wrap64 (48 + (iO a0 10))) % 256)]) (ok := fun _ => True) (okp := fun _ => True) ?hr ?hp (fun _ hk => hk) trivial (fX _ _) (fQ _) (by simp) ?_; (case hd => rfl); (case hg => rfl); (case hr => first | (go_simp; done) | (go_simp; rfl)); (case hp => exact (lS (show Kd.M (fG .u8) _ _ _ ((wrap64 (48 + (iO a0 10))) % 256) [.int .u8 ((wrap64 (48 + (iO a0 10))) % 256)] from rfl) (jD _ _)))
   intro g a5 m hb hg_ hnew_
   clear hg_ hnew_
   (first | rw [← l.o] at m | (simp only [gX] at m; rw [← l.o] at m))
   have a := zm (fL m (eV (zg_1 HB.o))); have b := zm (eZ (zg_1 HB.o) hb); clear HB; have Za := a; have HB := b; clear a b; clear hb m
   refine hK.out _ _ trivial (fun hHeld => ?_)
   clear hK K
   refine jV (a' := ?_) ?_ ?_
   rotate_left
   ·show gE _ (some 25) _ = _
    simp only [gE, zs, zz, zt, iQ, jF]
    rfl
   refine one_ (i := 8) (N := some 26) #[tt, tt, tt, tt, tt, tt, tt, tt, tt, ff, ff] rfl rfl (iS HT_.o zk) (by decide) (fun K hK => ?_)
   have hcv17 := own_string (P := fM) oS nU Tryz.underlying9 (Kd.own_of_R Za.o)
   refine value_ (w1 := ?_) (v := ?_) (by rfl) rfl ?_ ?_
   rotate_left 2
   ·go_simp
    constructor
    ·rfl
    ·rfl
   clear hcv17
   refine hK.out _ _ trivial (fun hHeld => ?_)
   clear hK K
   refine jV (a' := ?_) ?_ ?_
   rotate_left
   ·show gE _ (some 26) _ = _
    simp only [gE, zs, zz, zt, iQ, jF]
    rfl
   exact jV (by simp only [putAll, gE, zs, zz, zt]) (hCont (g) _ ⟨(zg_6 Za.o), (zg_1 HB.o)⟩)
  ·skip
   refine nB (fG .u8) _ 5 ?hg (N := 25) ?hd (xs := ([(wrap64 (48 + (iO a0 10))) % 256] : List Int)) (inner := [.int .u8 ((wrap64 (48 + (iO a0 10))) % 256)]) (ok := fun _ => True) (okp := fun _ => True) ?hr ?hp (fun _ hk => hk) trivial (fX _ _) (fQ _) (by simp) ?_; (case hd => rfl); (case hg => rfl); (case hr => first | (go_simp; done) | (go_simp; rfl)); (case hp => exact (lS (show Kd.M (fG .u8) _ _ _ ((wrap64 (48 + (iO a0 10))) % 256) [.int .u8 ((wrap64 (48 + (iO a0 10))) % 256)] from rfl) (jD _ _)))
   intro g T o hb hg_ hnew_
   clear hg_ hnew_
   (first | rw [← l.o] at o | (simp only [gX] at o; rw [← l.o] at o))
   have a := zm (fL o (eV (zg_1 HB.o))); have b := zm (eZ (zg_1 HB.o) hb); clear HB; have Za := a; have HB := b; clear a b; clear hb o
   refine hK.out _ _ trivial (fun hHeld => ?_)
   clear hK K
   refine jV (a' := ?_) ?_ ?_
   rotate_left
   ·show gE _ (some 25) _ = _
    simp only [gE, zs, zz, zt, iQ, jF]
    rfl
   refine two_ (i := 2) (j := 8) (Ni := some 20) (Nj := some 26) #[tt, tt, tt, tt, tt, tt, tt, tt, ff, ff, ff] #[tt, tt, ff, tt, tt, tt, tt, tt, tt, ff, ff] rfl rfl rfl rfl (two_of HT_.o zk) (by decide) (by decide) (fun K hK => ?_) (fun K hK => ?_)
   ·skip
    refine goes_ mW (by kernel_rfl) rfl #[.int .i64 (wrap64 (kM a0 10))] (by rfl) rfl rfl zq ?_
    with_reducible refine (ih k (by omega) (wrap64 (kM a0 10)) c _ B.o).mono ?_
    rintro e a6 ⟨rfl, hb⟩
    refine ⟨_, rfl, ?_⟩
    have a := zm (fI (zg_6 Za.o) hb); have b := zm (eZ (zg_1 HB.o) hb); clear Za; clear HB; have Za := a; have HB := b; clear a b
    (try clear hb)
    (try clear hb2)
    (try clear hk)
    (try clear hi)
    refine hK.out _ _ trivial (fun hHeld => ?_)
    clear hK K
    refine jV (a' := ?_) ?_ ?_
    rotate_left
    ·show gE _ (some 20) _ = _
     simp only [gE, zs, zz, zt, iQ, jF]
     rfl
    refine one_ (i := 8) (N := some 26) #[tt, tt, tt, tt, tt, tt, tt, tt, tt, ff, ff] rfl rfl (iS HT_.o zk) (by decide) (fun K hK => ?_)
    have hcv17 := own_string (P := fM) oS nU Tryz.underlying9 (Kd.own_of_R Za.o)
    refine value_ (w1 := ?_) (v := ?_) (by rfl) rfl ?_ ?_
    rotate_left 2
    ·go_simp
     constructor
     ·rfl
     ·rfl
    clear hcv17
    refine hK.out _ _ trivial (fun hHeld => ?_)
    clear hK K
    refine jV (a' := ?_) ?_ ?_
    rotate_left
    ·show gE _ (some 26) _ = _
     simp only [gE, zs, zz, zt, iQ, jF]
     rfl
    exact jV (by simp only [putAll, gE, zs, zz, zt]) (hCont (g) _ ⟨(zg_6 Za.o), (zg_1 HB.o)⟩)
   ·skip
    have hcv16 := own_string (P := fM) oS nU Tryz.underlying9 (Kd.own_of_R Za.o)
    refine value_ (w1 := ?_) (v := ?_) (by rfl) rfl ?_ ?_
    rotate_left 2
    ·go_simp
     constructor
     ·rfl
     ·rfl
    clear hcv16
    refine hK.out _ _ trivial (fun hHeld => ?_)
    clear hK K
    refine jV (a' := ?_) ?_ ?_
    rotate_left
    ·show gE _ (some 26) _ = _
     simp only [gE, zs, zz, zt, iQ, jF]
     rfl
    refine one_ (i := 2) (N := some 20) #[tt, tt, tt, tt, tt, tt, tt, tt, tt, ff, ff] rfl rfl (iS HT_.o zk) (by decide) (fun K hK => ?_)
    refine goes_ mW (by kernel_rfl) rfl #[.int .i64 (wrap64 (kM a0 10))] (by rfl) rfl rfl zq ?_
    with_reducible refine (ih k (by omega) (wrap64 (kM a0 10)) c _ B.o).mono ?_
    rintro e a7 ⟨rfl, hb⟩
    refine ⟨_, rfl, ?_⟩
    have a := zm (fI (zg_6 Za.o) hb); have b := zm (eZ (zg_1 HB.o) hb); clear Za; clear HB; have Za := a; have HB := b; clear a b
    (try clear hb)
    (try clear hb2)
    (try clear hk)
    (try clear hi)
    refine hK.out _ _ trivial (fun hHeld => ?_)
    clear hK K
    refine jV (a' := ?_) ?_ ?_
    rotate_left
    ·show gE _ (some 20) _ = _
     simp only [gE, zs, zz, zt, iQ, jF]
     rfl
    exact jV (by simp only [putAll, gE, zs, zz, zt]) (hCont (g) _ ⟨(zg_6 Za.o), (zg_1 HB.o)⟩)
 rintro g E ⟨h0_, h1_⟩
 have a : Aside0 (Kd.R (fG .u8) 5 E w.heap.size (fun _ => True) g d) := ⟨h0_⟩
 have b : Aside0 (Below w.heap.size w E) := ⟨h1_⟩
 clear HB; clear h0_ h1_; have Za := a; have HB := b; clear a b; have hHeld := trivial
 refine jV (a' := ?_) ?_ ?_
 rotate_left
 ·simp only [putAll, gE, zs, zz, zt]
  rfl
 refine gR (i := 9) (N := some 27) #[tt, tt, tt, tt, tt, tt, tt, tt, tt, tt, ff] rfl rfl (gD HT_.o zk) (fun _ _ _ h => h) (.inl ⟨by rfl, zi⟩) zu ?_
 refine gR (i := 10) (N := some 2) #[tt, tt, tt, tt, tt, tt, tt, tt, tt, tt, tt] rfl rfl (gD HT_.o zk) (fun _ _ _ h => h) (.inl ⟨by rfl, zi⟩) zu ?_
 refine done_ (done_of HT_.o zk) ?_
 try go_wp2
 go_ret
 exact ⟨ze, zg_1 HB.o⟩
def bU.l0 : Nat → ByteArray → List Int → Int → Option (ByteArray)
  | 0, _, _, _ => none
  | k + 1, x0, x1, x5 => if x5 < (x1.length : Int) then (if 0 ≤ x5 then ((bH.f k (rd x1 x5)).bind fun t791 => (if 1 + t791.size ≤ 9223372036854775807 then (if x0.size + ((⟨#[32]⟩ : ByteArray) ++ t791).size ≤ 9223372036854775807 then (bU.l0 k (x0 ++ ((⟨#[32]⟩ : ByteArray) ++ t791)) x1 (wrap64 (x5 + 1))) else (none)) else (none))) else (none)) else (some x0)
def bU.f (k : Nat) (a0 : ByteArray) (l1 : List Int) : Option (ByteArray) := bU.l0 k a0 l1 0
set_option maxHeartbeats 8000000 in
set_option maxRecDepth 100000 in
theorem bU.calls (k : Nat) (a0 : ByteArray) (x : Option Addr) (p : Nat) (c : List Int) (r : ByteArray) (w : World) (l : Kd.C (fG .i64) w x c.length c) (m : c.length ≤ p) (h : bU.f k a0 c = some r) :
    Calls fM 49 #[.string a0, .slice x c.length p] w fun e w' => e = .returned (.string r) ∧ Below w.heap.size w w' := by
 have y := zm l; have O := zm m; clear l m; have HB := zm (fX w.heap.size w)
 have H : (bU.l0 k a0 c 0) = some r := h
 clear h
 have H' := zm H
 clear H
 go_enter Tryz.func49, Tryz.ntmps49
 go_wp2
 go_loopg [0, 5] k (fun kq B D w' => ∃ (b : ByteArray) (a : Int), B = .string b ∧ D = .int .i64 a ∧ Aside0 (bU.l0 kq b c a = some r) ∧ Aside0 (kq ≤ k) ∧ Aside0 (Below w.heap.size w w'))
 case atStart => exact ⟨(a0), (0), zr, zr, H', ⟨fQ _⟩, ⟨zg_1 HB.o⟩⟩
 case round =>
  clear H'
  try clear p
  try clear R
  obtain ⟨b, a, rfl, rfl, HA, n, HB⟩ := hrel
  cases gk with
  | zero => exact absurd HA.o (by simp [bU.l0])
  | succ k1 =>
   have H := HA.o; clear HA
   simp only [bU.l0] at H
   by_cases j : a < (c.length : Int)
   rotate_left
   ·rw [if_neg j] at H
    have q := decide_eq_false j; clear j; obtain rfl := fF H
    go_wp2
    go_ret
    exact ⟨ze, zg_1 HB.o⟩
   rw [if_pos j] at H; have q := decide_eq_true j; clear j
   replace H := zif H; obtain ⟨z, H⟩ := H; have E := decide_eq_true z; clear z; replace H := eW.mp H
   obtain ⟨d, o, H⟩ := H
   try dsimp only at H
   have F := zm o; clear o
   replace H := zif H; obtain ⟨s, H⟩ := H; have G := eq_true s; have I := decide_eq_true s
   try have J : (9223372036854775807 < 1 + d.size) = False := eq_false (Nat.not_lt.2 s)
   replace H := zif H; obtain ⟨t, H⟩ := H; have L := eq_true t; have M := decide_eq_true t
   try have u : (9223372036854775807 < b.size + ((⟨#[32]⟩ : ByteArray) ++ d).size) = False := eq_false (Nat.not_lt.2 t)
   try have N : (9223372036854775807 < b.size + 1 + d.size) = False := (by have h_ := u; simp only [ByteArray.size_append] at h_; exact h_)
   have H' := zm H
   clear H
   have g : 0 ≤ (a : Int) := zd
   have i : a < (c.length : Int) := zd
   obtain ⟨A, v, hx790_0⟩ := gY y.o a g i
   cases v; replace hx790_0 := (HB.o.cell (eU w _ hx790_0)).trans hx790_0; replace g := eq_true g; replace i := eq_true i
   go_wp2_with (first | ((with_reducible refine fJ (f := 79) rfl ?_); refine gU (some 17) rfl rfl mW (by kernel_rfl) rfl #[.int .i64 (rd c a)] rfl zq ?_; (with_reducible refine (bH.calls k1 (rd c a) d _ F.o).mono ?_); rintro e S ⟨rfl, hb⟩; refine ⟨_, rfl, ?_⟩; refine zG1 (eZ (zg_1 HB.o) hb) ?_; clear HB; intro HB; (try clear hb); (try clear hb2); (try clear hk); (try clear hi)))
   go_roundg k1
   case measure => have := n.o; omega
   case rel => exact ⟨(b ++ ((⟨#[32]⟩ : ByteArray) ++ d)), (wrap64 (a + 1)), zr, zr, H', ⟨by have := n.o; omega⟩, ⟨zg_1 HB.o⟩⟩
def bD.l0 : Nat → List ByteArray → Int → List Int → List (S53) → Option (List ByteArray)
  | 0, _, _, _, _ => none
  | k + 1, x3, x4, x793000, x793001 => if x4 < (x793001.length : Int) then (if 0 ≤ x4 then (if ((aC x793001 x4).f0).size + 1 ≤ 9223372036854775807 then ((bU.f k (((aC x793001 x4).f0) ++ (⟨#[58]⟩ : ByteArray)) ((aC x793001 x4).f1)).bind fun t799 => (if x3.length < 8796093022208 then (bD.l0 k (x3 ++ [t799]) (wrap64 (x4 + 1)) x793000 x793001) else (none))) else (none)) else (none)) else (some x3)
def bD.f (k : Nat) (l0_0 : List Int) (l0_1 : List (S53)) : Option (List ByteArray) := (bU.f k (⟨#[110, 111, 119, 58]⟩ : ByteArray) l0_0).bind fun t793 => (bD.l0 k (([t793] : List ByteArray)) 0 l0_0 l0_1)
def bD.T5 : Bool × List (List Nat × List Nat) := (true, [([], []), ([], []), ([1], [1]), ([], []), ([2, 3], [2, 3]), ([4], [4]), ([5], [5]), ([6], [6]), ([], []), ([8], [8]), ([], []), ([9, 10], [9, 10]), ([11], [11]), ([12], [12]), ([7, 13], [7, 13]), ([14], [14]), ([0, 15, 14], [0, 15]), ([16, 16, 0, 1, 2, 3, 4, 5, 6, 7, 8, 9, 10, 11, 12, 13, 14, 15, 16], [0, 16])])
def bD.B5 : List Nat := [0, 0, 2, 0, 14, 30, 62, 126, 0, 256, 0, 1792, 3840, 7936, 16382, 32766, 65535, 131071]
theorem bD.tab5 : rtab .any (opsOf Tryz.f19 5) = bD.T5 := by kernel_rfl
theorem bD.bits5 : waitsOk bD.T5.2 bD.B5 = true := by kernel_rfl
set_option maxHeartbeats 8000000 in
set_option maxRecDepth 100000 in
theorem bD.calls (k : Nat) (l : Option Addr) (m : Nat) (c : List Int) (q : Option Addr) (p : Nat) (a : List (S53)) (r : List ByteArray) (w : World) (T : Kd.C (fG .i64) w l c.length c) (U : c.length ≤ m) (V : Kd.C k53 w q a.length a) (X : a.length ≤ p) (h : bD.f k c a = some r) :
    Calls fM 19 #[.agg #[.slice l c.length m, .slice q a.length p]] w fun e w' => ∃ a7 : Value, e = .returned (a7) ∧ Kd.R gV 9 w' w.heap.size (fun _ => True) a7 r ∧ Below w.heap.size w w' := by
 have hu26 := iN; have Zh := zm T; have Zi := zm U; clear T U; have Zg := zm V; have Zm := zm X; clear V X; have HB := zm (fX w.heap.size w); have H := h
 unfold bD.f at H
 clear h; replace H := eW.mp H
 obtain ⟨s, a8, H⟩ := H
 try dsimp only at H
 have A2 := zm a8; clear a8
 obtain ⟨a0, D⟩ : ∃ y_ : List ByteArray, y_ = (([s] : List ByteArray)) := ⟨_, rfl⟩
 replace H : (bD.l0 k a0 0 c a) = some r := zy H D
 have Y := zm D; clear D
 have H' := zm H
 clear H
 go_enter Tryz.func19, Tryz.ntmps19
 go_wp2_with (first | ((with_reducible refine fP (N := 1) rfl ?_); refine fS zo (N := 1) zo (cs := #[.slice l c.length m, .slice q a.length p]) (t := 26) zh ?_; intro j hg w3 hbox hb; refine zG4 (eZ (zg_1 HB.o) hb) (hbox) ((by rw [hg]; exact (eV (zg_1 HB.o)) : w.heap.size ≤ j)) ((by rw [hg]; exact (eV (zg_1 HB.o)) : w.heap.size ≤ j)) ?_; clear HB; intro HB Za Zn Zb; clear hb hbox hg; obtain ⟨_, _, _, _⟩ := zb2 Za.o) | ((with_reducible refine fJ (f := 49) rfl ?_); refine gU (some 7) rfl rfl Tryz.func49 (by kernel_rfl) rfl #[.string (⟨#[110, 111, 119, 58]⟩ : ByteArray), .slice l c.length m] rfl zq ?_; (with_reducible refine (bU.calls k (⟨#[110, 111, 119, 58]⟩ : ByteArray) _ _ c s _ ?_ ?_ A2.o).mono ?_); exact zC (fE Zh.o HB.o); exact Zi.o; rintro e w5 ⟨rfl, hb⟩; refine ⟨_, rfl, ?_⟩; refine zG2 (fB (g := j) (o := .cells #[.slice l c.length m, .slice q a.length p] 26 (0, 0)) (zg_3 Za.o) hb) (eZ (zg_2 HB.o Zb.o) hb) ?_; clear Za HB; intro Za HB; (try clear hb); (try clear hb2); (try clear hk); (try clear hi)) | ((with_reducible refine fP (N := 8) rfl ?_); refine lT gV _ 9 ?hg (N := 8) ?hd (xs := ([s] : List ByteArray)) (inner := [.string s]) (ok := fun _ => True) (okp := fun _ => True) ?hr ?hp (fun _ hk => hk) trivial (fX _ _) (fQ _) (by simp) ?_; (case hd => rfl); (case hg => rfl); (case hr => first | (go_simp; done) | (go_simp; rfl)); (case hp => exact (lS (show Kd.M gV _ _ _ s [.string s] from rfl) (jD _ _))); intro c2 w6 G hb hg_ hnew_; clear hg_ hnew_; (first | rw [← Y.o] at G | (simp only [gX] at G; rw [← Y.o] at G)); refine zG3 (fL G (eV (zg_2 HB.o Zb.o))) (fB (g := j) (o := .cells #[.slice l c.length m, .slice q a.length p] 26 (0, 0)) (zg_3 Za.o) hb) (eZ (zg_2 HB.o Zb.o) hb) ?_; clear Za HB; intro Zj Za HB; clear hb G))
 go_loopg [3, 4] k (fun kq v3 v4 w' => ∃ (z : List ByteArray) (b : Int), v4 = .int .i64 b ∧ Aside0 (bD.l0 kq z b c a = some r) ∧ Aside0 (kq ≤ k) ∧ Aside0 (Kd.R gV 9 w' w.heap.size (fun _ => True) v3 z) ∧ Aside0 (w'.heap[j]? = some (.cells #[(.slice l c.length m), (.slice q a.length p)] 26 (0, 0))) ∧ Aside0 (Below w.heap.size w w'))
 case atStart => exact ⟨(a0), (0), zr, H', ⟨fQ _⟩, ⟨zlR Zj.o⟩, ⟨zl Za.o⟩, ⟨zg_2 HB.o Zb.o⟩⟩
 case round =>
  clear H'
  try clear c1
  try clear p2
  try clear c4
  obtain ⟨z, b, rfl, HA, a9, Zc, Za, HB⟩ := hrel
  cases gk with
  | zero => exact absurd HA.o (by simp [bD.l0])
  | succ k1 =>
   have H := HA.o; clear HA
   simp only [bD.l0] at H
   by_cases Z : b < (a.length : Int)
   rotate_left
   ·rw [if_neg Z] at H
    have b1 := decide_eq_false Z; clear Z; obtain rfl := fF H
    obtain ⟨_, _, _, _⟩ := zb2 Za.o
    go_wp2
    go_ret
    exact ⟨_, ze, by (with_reducible repeat (first | apply fY | apply fZ | apply fK)); exact Zc.o, zg_2 HB.o Zb.o⟩
   rw [if_pos Z] at H; have b1 := decide_eq_true Z; clear Z
   replace H := zid H; obtain ⟨c6, H⟩ := H
   replace H := zif H; obtain ⟨a1, H⟩ := H; have b7 := eq_true a1; have b8 := decide_eq_true a1
   try have b9 : (9223372036854775807 < ((aC a b).f0).size + 1) = False := eq_false (Nat.not_lt.2 a1)
   replace H := eW.mp H
   obtain ⟨E, a2, H⟩ := H
   try dsimp only at H
   have b4 := zm a2; clear a2
   replace H := zif H; obtain ⟨b0, H⟩ := H; have a4 := zm b0; clear b0
   obtain ⟨a3, F⟩ : ∃ y_ : List ByteArray, y_ = (z ++ [E]) := ⟨_, rfl⟩
   replace H : (bD.l0 k1 a3 (wrap64 (b + 1)) c a) = some r := zy H F
   have a5 := zm F; clear F
   have H' := zm H
   clear H
   obtain ⟨_, _, _, _⟩ := zb2 Za.o
   try go_wp2
   have u := zm (fK Zc.o); have x := zm (blk_drew Za.o); have y := zm (gA HB.o); clear Zc; clear Za; clear HB; have Zc := u; have Za := x; have HB := y; clear u x y
   have I : 0 ≤ (b : Int) := zd
   have J : b < (a.length : Int) := zd
   obtain ⟨d, A, B, b2, hx797_0, hx797_1, hl797_1, hi797_1⟩ := at_T53 Zg.o b I J
   have hw797_1 := hx797_1; have hw797_0 := hx797_0; cases b2; replace hx797_0 := (HB.o.cell (eU w _ hx797_0)).trans hx797_0; replace hx797_1 := (HB.o.cell (eU w _ hx797_1)).trans hx797_1; have Ze := zm hi797_1; have Zl := zm hl797_1; clear hi797_1 hl797_1; replace I := eq_true I; replace J := eq_true J
   have L : 0 ≤ (b : Int) := zd
   have O : b < (a.length : Int) := zd
   obtain ⟨a6, b5, b6, b3, hx798_0, hx798_1, hl798_1, hi798_1⟩ := at_T53 Zg.o b L O
   have hw798_1 := hx798_1; have hw798_0 := hx798_0
   obtain rfl : d = a6 := (by injection b3)
   replace hx798_0 := (HB.o.cell (eU w _ hx798_0)).trans hx798_0; replace hx798_1 := (HB.o.cell (eU w _ hx798_1)).trans hx798_1; have Zd := zm hi798_1; have Zf := zm hl798_1; clear hi798_1 hl798_1; replace L := eq_true L; replace O := eq_true O; have ea_ := fF (hx797_1.symm.trans hx798_1)
   injection ea_ with ea_ en_ ec_
   subst ea_; subst ec_; clear en_
   refine start_ (n := 18) (S := fun w' => w'.cell? ⟨j, 0, none⟩ = some (.slice l c.length m) ∧ w'.cell? ⟨j, 1, none⟩ = some (.slice (some d) a.length p) ∧ w'.cell? (d.add ((b).toNat * 2)) = some (.string ((aC a b).f0)) ∧ w'.cell? ⟨(d.add ((b).toNat * 2)).block, (d.add ((b).toNat * 2)).off + 1, none⟩ = some (.slice A ((aC a b).f1).length B) ∧ w'.cell? (d.add ((b).toNat * 2)) = some (.string ((aC a b).f0)) ∧ w'.cell? ⟨(d.add ((b).toNat * 2)).block, (d.add ((b).toNat * 2)).off + 1, none⟩ = some (.slice A ((aC a b).f1).length B)) (ds := []) #[ff, ff, ff, ff, ff, ff, ff, ff, ff, ff, ff, ff, ff, ff, ff, ff, ff, ff] (by kernel_rfl) rfl rfl ⟨(eY Za.o 0).trans rfl, (eY Za.o 1).trans rfl, ((HB.o.cell (eU w _ hw797_0)).trans hw797_0), ((HB.o.cell (eU w _ hw797_1)).trans hw797_1), ((HB.o.cell (eU w _ hw798_0)).trans hw798_0), ((HB.o.cell (eU w _ hw798_1)).trans hw798_1)⟩ (fun hHeld => ?_); refine with_tabW bD.tab5 bD.bits5 (fun HT_ HW_ => ?_)
   generalize wr.drew = c9 at Zc Za HB Ze Zd hx797_0 hx797_1 hx798_0 hx798_1 hHeld ⊢
   refine gR (i := 0) (N := some 16) #[tt, ff, ff, ff, ff, ff, ff, ff, ff, ff, ff, ff, ff, ff, ff, ff, ff, ff] rfl rfl (gD HT_.o zk) (fun _ _ _ h => h) (.inl ⟨by rfl, zi⟩) zu ?_
   refine gR (i := 1) (N := some 17) #[tt, tt, ff, ff, ff, ff, ff, ff, ff, ff, ff, ff, ff, ff, ff, ff, ff, ff] rfl rfl (gD HT_.o zk) (fun _ _ _ h => h) (.inl ⟨by rfl, zi⟩) zu ?_
   refine gR (i := 3) (N := some 19) #[tt, tt, ff, tt, ff, ff, ff, ff, ff, ff, ff, ff, ff, ff, ff, ff, ff, ff] rfl rfl (gD HT_.o zk) (fun _ _ _ h => h) (.inl ⟨by rfl, zi⟩) zu ?_
   refine gR (i := 8) (N := some 24) #[tt, tt, ff, tt, ff, ff, ff, ff, tt, ff, ff, ff, ff, ff, ff, ff, ff, ff] rfl rfl (gD HT_.o zk) (fun _ _ _ h => h) (.inl ⟨by rfl, zi⟩) zu ?_
   refine gR (i := 10) (N := some 26) #[tt, tt, ff, tt, ff, ff, ff, ff, tt, ff, tt, ff, ff, ff, ff, ff, ff, ff] rfl rfl (gD HT_.o zk) (fun _ _ _ h => h) (.inl ⟨by rfl, zi⟩) zu ?_
   refine take_ (i := 2) (N := some 18) #[tt, tt, tt, tt, ff, ff, ff, ff, tt, ff, tt, ff, ff, ff, ff, ff, ff, ff] rfl rfl (hZ HT_.o HW_.o zk) (fun _ _ _ h => h) (.inl ⟨by rfl, zi6⟩) hHeld zu ?_
   refine gR (i := 4) (N := some 20) #[tt, tt, tt, tt, tt, ff, ff, ff, tt, ff, tt, ff, ff, ff, ff, ff, ff, ff] rfl rfl (gD HT_.o zk) (fun _ _ _ h => h) (.inl ⟨by rfl, zi⟩) zu ?_
   refine gR (i := 5) (N := some 21) #[tt, tt, tt, tt, tt, tt, ff, ff, tt, ff, tt, ff, ff, ff, ff, ff, ff, ff] rfl rfl (gD HT_.o zk) (fun _ _ _ h => h) (.inl ⟨by rfl, zi⟩) zu ?_
   refine take_ (i := 6) (N := some 22) #[tt, tt, tt, tt, tt, tt, tt, ff, tt, ff, tt, ff, ff, ff, ff, ff, ff, ff] rfl rfl (hZ HT_.o HW_.o zk) (fun _ _ _ h => h) (.inl ⟨by rfl, zi6⟩) hHeld zu ?_
   refine gR (i := 7) (N := some 23) #[tt, tt, tt, tt, tt, tt, tt, tt, tt, ff, tt, ff, ff, ff, ff, ff, ff, ff] rfl rfl (gD HT_.o zk) (fun _ _ _ h => h) (.inl ⟨by rfl, zi⟩) zu ?_
   refine take_ (i := 9) (N := some 25) #[tt, tt, tt, tt, tt, tt, tt, tt, tt, tt, tt, ff, ff, ff, ff, ff, ff, ff] rfl rfl (hZ HT_.o HW_.o zk) (fun _ _ _ h => h) (.inl ⟨by rfl, zi6⟩) hHeld zu ?_
   refine gR (i := 11) (N := some 27) #[tt, tt, tt, tt, tt, tt, tt, tt, tt, tt, tt, tt, ff, ff, ff, ff, ff, ff] rfl rfl (gD HT_.o zk) (fun _ _ _ h => h) (.inl ⟨by rfl, zi⟩) zu ?_
   refine gR (i := 12) (N := some 28) #[tt, tt, tt, tt, tt, tt, tt, tt, tt, tt, tt, tt, tt, ff, ff, ff, ff, ff] rfl rfl (gD HT_.o zk) (fun _ _ _ h => h) (.inl ⟨by rfl, zi⟩) zu ?_
   refine take_ (i := 13) (N := some 29) #[tt, tt, tt, tt, tt, tt, tt, tt, tt, tt, tt, tt, tt, tt, ff, ff, ff, ff] rfl rfl (hZ HT_.o HW_.o zk) (fun _ _ _ h => h) (.inl ⟨by rfl, zi6⟩) hHeld zu ?_
   refine one_ (i := 14) (N := some 30) #[tt, tt, tt, tt, tt, tt, tt, tt, tt, tt, tt, tt, tt, tt, tt, ff, ff, ff] rfl rfl (iS HT_.o zk) (by decide) (fun K hK => ?_)
   refine goes_ Tryz.func49 (by kernel_rfl) rfl #[.string (((aC a b).f0) ++ (⟨#[58]⟩ : ByteArray)), .slice A ((aC a b).f1).length B] (by rfl) rfl rfl zq ?_
   with_reducible refine (bU.calls k1 (((aC a b).f0) ++ (⟨#[58]⟩ : ByteArray)) _ _ ((aC a b).f1) E _ ?side1 ?side2 b4.o).mono ?_
   (case side1 => exact zC (fE Zd.o HB.o))
   (case side2 => exact Zf.o)
   rintro e d0 ⟨rfl, hb⟩
   refine ⟨_, rfl, ?_⟩
   have u := zm (fI (zg_6 Zc.o) hb); have x := zm (fB (g := j) (o := .cells #[.slice l c.length m, .slice (some d) a.length p] 26 (0, 0)) (zg_3 Za.o) hb); have y := zm (eZ (zg_2 HB.o Zb.o) hb); clear Zc; clear Za; clear HB; have Zc := u; have Za := x; have HB := y; clear u x y
   (try clear hb)
   (try clear hb2)
   (try clear hk)
   (try clear hi)
   refine hK.out _ _ ⟨(eY Za.o 0).trans rfl, (eY Za.o 1).trans rfl, ((HB.o.cell (eU w _ hw797_0)).trans hw797_0), ((HB.o.cell (eU w _ hw797_1)).trans hw797_1), ((HB.o.cell (eU w _ hw798_0)).trans hw798_0), ((HB.o.cell (eU w _ hw798_1)).trans hw798_1)⟩ (fun hHeld => ?_)
   clear hK K
   refine jV (a' := ?_) ?_ ?_
   rotate_left
   ·show gE _ (some 30) _ = _
    simp only [gE, zs, zz, zt, iQ, jF]
    rfl
   refine one_ (i := 15) (N := some 31) #[tt, tt, tt, tt, tt, tt, tt, tt, tt, tt, tt, tt, tt, tt, tt, tt, ff, ff] rfl rfl (iS HT_.o zk) (by decide) (fun K hK => ?_)
   refine value_ (w1 := ?_) (v := ?_) (by rfl) rfl ?_ ?_
   rotate_left 2
   ·go_simp
    constructor
    ·rfl
    ·rfl
   refine hK.out _ _ ⟨(eY (blk_alloc Za.o _) 0).trans rfl, (eY (blk_alloc Za.o _) 1).trans rfl, (kN _ _ _ (eU _ _ (((HB.o.cell (eU w _ hw797_0)).trans hw797_0)))).trans (((HB.o.cell (eU w _ hw797_0)).trans hw797_0)), (kN _ _ _ (eU _ _ (((HB.o.cell (eU w _ hw797_1)).trans hw797_1)))).trans (((HB.o.cell (eU w _ hw797_1)).trans hw797_1)), (kN _ _ _ (eU _ _ (((HB.o.cell (eU w _ hw798_0)).trans hw798_0)))).trans (((HB.o.cell (eU w _ hw798_0)).trans hw798_0)), (kN _ _ _ (eU _ _ (((HB.o.cell (eU w _ hw798_1)).trans hw798_1)))).trans (((HB.o.cell (eU w _ hw798_1)).trans hw798_1))⟩ (fun hHeld => ?_)
   clear hK K
   refine jV (a' := ?_) ?_ ?_
   rotate_left
   ·show gE _ (some 31) _ = _
    simp only [gE, zs, zz, zt, iQ, jF]
    rfl
   refine one_ (i := 16) (N := some 32) #[tt, tt, tt, tt, tt, tt, tt, tt, tt, tt, tt, tt, tt, tt, tt, tt, tt, ff] rfl rfl (iS HT_.o zk) (by decide) (fun K hK => ?_)
   refine Kd.R_append_step gV (w0 := w) w.heap.size (by rfl) (.tmp 16) (.tmp 31) 33 9 (.string ⟨#[]⟩) 16 rfl kG info9 rfl (by decide) (by omega) u3 z E [.string E] (fun _ => True) (fun _ => False) rfl rfl ?aP (fun _ hk => hk.elim) ?aF ?aO ?aB ?aS ?aL ?_
   (case aP => exact rfl)
   (case aB => exact (zg_2 HB.o Zb.o))
   (case aF => exact (fun _ _ => trivial))
   (case aO => exact (zg_6 Zc.o))
   (case aS => exact (eV (zg_2 HB.o Zb.o)))
   (case aL => have := a4.o; omega)
   intro c7 d1 ho hb hg hat
   rw [← a5.o] at ho
   have u := zm (gW (g := j) (o := .cells #[.slice l c.length m, .slice (some d) a.length p] 26 (0, 0)) (zg_3 Za.o) hg (gJ Zc.o Za.o (by decide))); have x := zm (hb); have y := zm (ho); clear Za; clear HB; clear Zc; have Za := u; have HB := x; have Zk := y; clear u x y; clear ho hb hg hat
   refine hK.out _ _ ⟨(eY Za.o 0).trans rfl, (eY Za.o 1).trans rfl, ((HB.o.cell (eU w _ hw797_0)).trans hw797_0), ((HB.o.cell (eU w _ hw797_1)).trans hw797_1), ((HB.o.cell (eU w _ hw798_0)).trans hw798_0), ((HB.o.cell (eU w _ hw798_1)).trans hw798_1)⟩ (fun hHeld => ?_)
   clear hK K
   refine jV (a' := ?_) ?_ ?_
   rotate_left
   ·show gE _ (some 32) _ = _
    simp only [gE, zs, zz, zt, iQ, jF]
    rfl
   refine gR (i := 17) (N := some 3) #[tt, tt, tt, tt, tt, tt, tt, tt, tt, tt, tt, tt, tt, tt, tt, tt, tt, tt] rfl rfl (gD HT_.o zk) (fun _ _ _ h => h) (.inl ⟨by rfl, zi⟩) zu ?_
   refine done_ (done_of HT_.o zk) ?_
   try go_wp2
   go_roundg k1
   case measure => have := a9.o; omega
   case rel => exact ⟨(a3), (wrap64 (b + 1)), zr, H', ⟨by have := a9.o; omega⟩, ⟨zlR Zk.o⟩, ⟨zl Za.o⟩, ⟨zg_2 HB.o Zb.o⟩⟩
end Go.Proofs.YtniceoohmhjjlaaGreatDoor.Q
