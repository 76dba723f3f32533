/- What laws.FnDisk reaches, part 3: the functions as Lean functions, the proofs that the program's functions answer so, and plain laws about them. -/
import Derived.Test.YtajflpcihblkfaaKFnDisk1
import Derived.Test.YtajflpcihblkfaaKFnDisk2
namespace Go.Proofs.Ytajflpcihblkfaa.Q
open Go.RowKit Go.Proofs.Ytajflpcihblkfaa.Ext Go.Proofs.YtajflpcihblkfaaW.PrintWords Go.Proofs.YtajflpcihblkfaaW.PrintLast Go.Proofs.YtajflpcihblkfaaW.PrintMore
attribute [local go_sem] max2_int min2_int max_two min_two max_three min_three max_four min_four   -- for this text's walks alone
set_option linter.unusedVariables false
set_option linter.unusedSimpArgs false

set_option linter.unusedVariables false
set_option linter.unusedSimpArgs false
/-! ### impl_WriteSector: function 38 -/
def impl_WriteSector.f (l0_0 : List ByteArray) (l0_1 : List (S92)) (a1 : Int) (a2 : Int) (a3 : ByteArray) : Option (List ByteArray × (List (S92)) × Int) := (impl_isLongText.f a3).bind fun t811 => ((impl_DiskOK.f l0_0 l0_1).bind fun t812 => ((impl_isHost.f a1).bind fun t813 => ((impl_isPlace.f a2).bind fun t814 => ((impl_first.f (([Any.b t811, Any.n 2, Any.b (!t812), Any.n 1, Any.b (!t813), Any.n 4, Any.b (!t814), Any.n 14] : List Any))).bind fun t818 => (if t818 = 0 then ((impl_Disk_copied.f l0_0 l0_1).bind fun bt819 => ((impl_isSector.f a3).bind fun t826 => ((impl_first.f (([Any.b (!t826), Any.n 4, Any.b ((l0_1.length : Int) == 200), Any.n 7] : List Any))).bind fun t830 => (if t830 = 0 then (if bt819.2.length < 4398046511104 then (some (bt819.1, (bt819.2 ++ [(⟨a1, a2, a3⟩ : S92)]), 0)) else (none)) else (some (bt819.1, bt819.2, t830)))))) else (some (([] : List ByteArray), ([] : List (S92)), t818)))))))
def impl_WriteSector.T1 : Bool × List (List Nat × List Nat) := (true, [([], []), ([0], [0]), ([1], [1]), ([], []), ([], []), ([4, 1], [4]), ([5], [5]), ([6], [6]), ([], []), ([], []), ([9, 5], [9]), ([10], [10]), ([11], [11]), ([], []), ([], []), ([14, 10], [14]), ([15], [15]), ([16], [16]), ([], []), ([2, 3, 7, 8, 12, 13, 17, 18], [2, 3, 7, 8, 12, 13, 17, 18]), ([19, 15], [19]), ([20, 20, 0, 1, 2, 3, 4, 5, 6, 7, 8, 9, 10, 11, 12, 13, 14, 15, 16, 17, 18, 19, 20], [20])])
def impl_WriteSector.B1 : List Nat := [0, 1, 3, 0, 0, 19, 51, 115, 0, 0, 563, 1587, 3635, 0, 0, 17971, 50739, 116275, 0, 524287, 1048575, 2097151]
theorem impl_WriteSector.tab1 : rtab .any (opsOf Try.f38 1) = impl_WriteSector.T1 := by kernel_rfl
theorem impl_WriteSector.bits1 : waitsOk impl_WriteSector.T1.2 impl_WriteSector.B1 = true := by kernel_rfl
def impl_WriteSector.T5 : Bool × List (List Nat × List Nat) := (true, [([], []), ([0], [0]), ([1], [1]), ([2], [2]), ([], []), ([], []), ([5], [5]), ([6], [6]), ([7], [7]), ([8], [8]), ([], []), ([3, 4, 9, 10], [3, 4, 9, 10]), ([11, 1], [11]), ([12, 12, 0, 1, 2, 3, 4, 5, 6, 7, 8, 9, 10, 11, 12], [12])])
def impl_WriteSector.B5 : List Nat := [0, 1, 3, 7, 0, 0, 32, 96, 224, 480, 0, 2047, 4095, 8191]
theorem impl_WriteSector.tab5 : rtab .any (opsOf Try.f38 5) = impl_WriteSector.T5 := by kernel_rfl
theorem impl_WriteSector.bits5 : waitsOk impl_WriteSector.T5.2 impl_WriteSector.B5 = true := by kernel_rfl
set_option maxHeartbeats 8000000 in
set_option maxRecDepth 100000 in
theorem impl_WriteSector.calls (A0_0 : Option Addr) (c0_0 : Nat) (l0_0 : List ByteArray) (A0_1 : Option Addr) (c0_1 : Nat) (l0_1 : List (S92)) (a1 : Int) (a2 : Int) (a3 : ByteArray) (r1 : List ByteArray) (r2 : List (S92)) (r3 : Int) (w : World) (hr0_0 : Kd.C Kd.string w A0_0 l0_0.length l0_0) (hc0_0 : l0_0.length ≤ c0_0) (hr0_1 : Kd.C k92 w A0_1 l0_1.length l0_1) (hc0_1 : l0_1.length ≤ c0_1) (h : impl_WriteSector.f l0_0 l0_1 a1 a2 a3 = some (r1, r2, r3)) :
    Calls Try.prog 38 #[.agg #[.slice A0_0 l0_0.length c0_0, .slice A0_1 l0_1.length c0_1], .int .i64 a1, .int .i64 a2, .string a3] w fun e w' => ∃ v0_ v1_ : Value, e = .returned (.tuple #[.agg #[v0_, v1_], .int .i64 r3]) ∧ Kd.R Kd.string 9 w' w.heap.size (fun _ => True) v0_ r1 ∧ Kd.R k92 92 w' w.heap.size (fun _ => True) v1_ r2 ∧ Below w.heap.size w w' := by
 have hu48 := Try.underlying48
 have hu92 := Try.underlying92
 have Zq := zm hr0_0
 have Zr := zm hc0_0
 clear hr0_0 hc0_0
 have Zs := zm hr0_1
 have Zt := zm hc0_1
 clear hr0_1 hc0_1
 have HB := zm (Below.refl w.heap.size w)
 have H : ((impl_isLongText.f a3).bind fun t811 => ((impl_DiskOK.f l0_0 l0_1).bind fun t812 => ((impl_isHost.f a1).bind fun t813 => ((impl_isPlace.f a2).bind fun t814 => ((impl_first.f (([Any.b t811, Any.n 2, Any.b (!t812), Any.n 1, Any.b (!t813), Any.n 4, Any.b (!t814), Any.n 14] : List Any))).bind fun t818 => (if t818 = 0 then ((impl_Disk_copied.f l0_0 l0_1).bind fun bt819 => ((impl_isSector.f a3).bind fun t826 => ((impl_first.f (([Any.b (!t826), Any.n 4, Any.b ((l0_1.length : Int) == 200), Any.n 7] : List Any))).bind fun t830 => (if t830 = 0 then (if bt819.2.length < 4398046511104 then (some (bt819.1, (bt819.2 ++ [(⟨a1, a2, a3⟩ : S92)]), 0)) else (none)) else (some (bt819.1, bt819.2, t830)))))) else (some (([] : List ByteArray), ([] : List (S92)), t818)))))))) = some (r1, r2, r3) := h
 clear h
 replace H := Option.bind_eq_some_iff.mp H
 obtain ⟨t811, A50, H⟩ := H
 replace H : ((impl_DiskOK.f l0_0 l0_1).bind fun t812 => ((impl_isHost.f a1).bind fun t813 => ((impl_isPlace.f a2).bind fun t814 => ((impl_first.f (([Any.b t811, Any.n 2, Any.b (!t812), Any.n 1, Any.b (!t813), Any.n 4, Any.b (!t814), Any.n 14] : List Any))).bind fun t818 => (if t818 = 0 then ((impl_Disk_copied.f l0_0 l0_1).bind fun bt819 => ((impl_isSector.f a3).bind fun t826 => ((impl_first.f (([Any.b (!t826), Any.n 4, Any.b ((l0_1.length : Int) == 200), Any.n 7] : List Any))).bind fun t830 => (if t830 = 0 then (if bt819.2.length < 4398046511104 then (some (bt819.1, (bt819.2 ++ [(⟨a1, a2, a3⟩ : S92)]), 0)) else (none)) else (some (bt819.1, bt819.2, t830)))))) else (some (([] : List ByteArray), ([] : List (S92)), t818))))))) = some (r1, r2, r3) := H
 have A5 := zm A50
 clear A50
 replace H := Option.bind_eq_some_iff.mp H
 obtain ⟨t812, A60, H⟩ := H
 replace H : ((impl_isHost.f a1).bind fun t813 => ((impl_isPlace.f a2).bind fun t814 => ((impl_first.f (([Any.b t811, Any.n 2, Any.b (!t812), Any.n 1, Any.b (!t813), Any.n 4, Any.b (!t814), Any.n 14] : List Any))).bind fun t818 => (if t818 = 0 then ((impl_Disk_copied.f l0_0 l0_1).bind fun bt819 => ((impl_isSector.f a3).bind fun t826 => ((impl_first.f (([Any.b (!t826), Any.n 4, Any.b ((l0_1.length : Int) == 200), Any.n 7] : List Any))).bind fun t830 => (if t830 = 0 then (if bt819.2.length < 4398046511104 then (some (bt819.1, (bt819.2 ++ [(⟨a1, a2, a3⟩ : S92)]), 0)) else (none)) else (some (bt819.1, bt819.2, t830)))))) else (some (([] : List ByteArray), ([] : List (S92)), t818)))))) = some (r1, r2, r3) := H
 have A6 := zm A60
 clear A60
 replace H := Option.bind_eq_some_iff.mp H
 obtain ⟨t813, A70, H⟩ := H
 replace H : ((impl_isPlace.f a2).bind fun t814 => ((impl_first.f (([Any.b t811, Any.n 2, Any.b (!t812), Any.n 1, Any.b (!t813), Any.n 4, Any.b (!t814), Any.n 14] : List Any))).bind fun t818 => (if t818 = 0 then ((impl_Disk_copied.f l0_0 l0_1).bind fun bt819 => ((impl_isSector.f a3).bind fun t826 => ((impl_first.f (([Any.b (!t826), Any.n 4, Any.b ((l0_1.length : Int) == 200), Any.n 7] : List Any))).bind fun t830 => (if t830 = 0 then (if bt819.2.length < 4398046511104 then (some (bt819.1, (bt819.2 ++ [(⟨a1, a2, a3⟩ : S92)]), 0)) else (none)) else (some (bt819.1, bt819.2, t830)))))) else (some (([] : List ByteArray), ([] : List (S92)), t818))))) = some (r1, r2, r3) := H
 have A7 := zm A70
 clear A70
 replace H := Option.bind_eq_some_iff.mp H
 obtain ⟨t814, A80, H⟩ := H
 replace H : ((impl_first.f (([Any.b t811, Any.n 2, Any.b (!t812), Any.n 1, Any.b (!t813), Any.n 4, Any.b (!t814), Any.n 14] : List Any))).bind fun t818 => (if t818 = 0 then ((impl_Disk_copied.f l0_0 l0_1).bind fun bt819 => ((impl_isSector.f a3).bind fun t826 => ((impl_first.f (([Any.b (!t826), Any.n 4, Any.b ((l0_1.length : Int) == 200), Any.n 7] : List Any))).bind fun t830 => (if t830 = 0 then (if bt819.2.length < 4398046511104 then (some (bt819.1, (bt819.2 ++ [(⟨a1, a2, a3⟩ : S92)]), 0)) else (none)) else (some (bt819.1, bt819.2, t830)))))) else (some (([] : List ByteArray), ([] : List (S92)), t818)))) = some (r1, r2, r3) := H
 have A8 := zm A80
 clear A80
 obtain ⟨y815, hy815⟩ : ∃ y_ : List Any, y_ = (([Any.b t811, Any.n 2, Any.b (!t812), Any.n 1, Any.b (!t813), Any.n 4, Any.b (!t814), Any.n 14] : List Any)) := ⟨_, rfl⟩
 replace H : ((impl_first.f y815).bind fun t818 => (if t818 = 0 then ((impl_Disk_copied.f l0_0 l0_1).bind fun bt819 => ((impl_isSector.f a3).bind fun t826 => ((impl_first.f (([Any.b (!t826), Any.n 4, Any.b ((l0_1.length : Int) == 200), Any.n 7] : List Any))).bind fun t830 => (if t830 = 0 then (if bt819.2.length < 4398046511104 then (some (bt819.1, (bt819.2 ++ [(⟨a1, a2, a3⟩ : S92)]), 0)) else (none)) else (some (bt819.1, bt819.2, t830)))))) else (some (([] : List ByteArray), ([] : List (S92)), t818)))) = some (r1, r2, r3) := by first | (rw [hy815]; with_reducible exact H) | (have H2_ := (Option.bind_some _ _).symm.trans H; rw [hy815]; with_reducible exact H2_) | (have H2_ := (Option.bind_some _ _).symm.trans H; with_reducible exact H2_) | with_reducible exact H | (rw [hy815]; exact H) | exact H
 have Ny815 := zm hy815
 clear hy815
 replace H := Option.bind_eq_some_iff.mp H
 obtain ⟨t818, A90, H⟩ := H
 replace H : (if t818 = 0 then ((impl_Disk_copied.f l0_0 l0_1).bind fun bt819 => ((impl_isSector.f a3).bind fun t826 => ((impl_first.f (([Any.b (!t826), Any.n 4, Any.b ((l0_1.length : Int) == 200), Any.n 7] : List Any))).bind fun t830 => (if t830 = 0 then (if bt819.2.length < 4398046511104 then (some (bt819.1, (bt819.2 ++ [(⟨a1, a2, a3⟩ : S92)]), 0)) else (none)) else (some (bt819.1, bt819.2, t830)))))) else (some (([] : List ByteArray), ([] : List (S92)), t818))) = some (r1, r2, r3) := H
 have A9 := zm A90
 clear A90
 by_cases c10 : t818 = 0
 ·rw [if_pos c10] at H
  have c10b0 : (t818 == 0) = true := beq_iff_eq.mpr c10
  have c10b1 : (t818 != 0) = false := bne_eq_false_iff_eq.mpr c10
  clear c10
  replace H := Option.bind_eq_some_iff.mp H
  obtain ⟨⟨t819, t822⟩, A110, H⟩ := H
  replace H : ((impl_isSector.f a3).bind fun t826 => ((impl_first.f (([Any.b (!t826), Any.n 4, Any.b ((l0_1.length : Int) == 200), Any.n 7] : List Any))).bind fun t830 => (if t830 = 0 then (if t822.length < 4398046511104 then (some (t819, (t822 ++ [(⟨a1, a2, a3⟩ : S92)]), 0)) else (none)) else (some (t819, t822, t830))))) = some (r1, r2, r3) := H
  have A11 := zm A110
  clear A110
  replace H := Option.bind_eq_some_iff.mp H
  obtain ⟨t826, A120, H⟩ := H
  replace H : ((impl_first.f (([Any.b (!t826), Any.n 4, Any.b ((l0_1.length : Int) == 200), Any.n 7] : List Any))).bind fun t830 => (if t830 = 0 then (if t822.length < 4398046511104 then (some (t819, (t822 ++ [(⟨a1, a2, a3⟩ : S92)]), 0)) else (none)) else (some (t819, t822, t830)))) = some (r1, r2, r3) := H
  have A12 := zm A120
  clear A120
  obtain ⟨y827, hy827⟩ : ∃ y_ : List Any, y_ = (([Any.b (!t826), Any.n 4, Any.b ((l0_1.length : Int) == 200), Any.n 7] : List Any)) := ⟨_, rfl⟩
  replace H : ((impl_first.f y827).bind fun t830 => (if t830 = 0 then (if t822.length < 4398046511104 then (some (t819, (t822 ++ [(⟨a1, a2, a3⟩ : S92)]), 0)) else (none)) else (some (t819, t822, t830)))) = some (r1, r2, r3) := by first | (rw [hy827]; with_reducible exact H) | (have H2_ := (Option.bind_some _ _).symm.trans H; rw [hy827]; with_reducible exact H2_) | (have H2_ := (Option.bind_some _ _).symm.trans H; with_reducible exact H2_) | with_reducible exact H | (rw [hy827]; exact H) | exact H
  have Ny827 := zm hy827
  clear hy827
  replace H := Option.bind_eq_some_iff.mp H
  obtain ⟨t830, A130, H⟩ := H
  replace H : (if t830 = 0 then (if t822.length < 4398046511104 then (some (t819, (t822 ++ [(⟨a1, a2, a3⟩ : S92)]), 0)) else (none)) else (some (t819, t822, t830))) = some (r1, r2, r3) := H
  have A13 := zm A130
  clear A130
  by_cases c14 : t830 = 0
  ·rw [if_pos c14] at H
   have c14b0 : (t830 == 0) = true := beq_iff_eq.mpr c14
   have c14b1 : (t830 != 0) = false := bne_eq_false_iff_eq.mpr c14
   clear c14
   by_cases c15 : t822.length < 4398046511104
   ·rw [if_pos c15] at H
    have LMc15 := zm c15
    clear c15
    obtain ⟨y831, hy831⟩ : ∃ y_ : List (S92), y_ = (t822 ++ [(⟨a1, a2, a3⟩ : S92)]) := ⟨_, rfl⟩
    replace H : (some (t819, y831, 0)) = some (r1, r2, r3) := by first | (rw [hy831]; with_reducible exact H) | (have H2_ := (Option.bind_some _ _).symm.trans H; rw [hy831]; with_reducible exact H2_) | (have H2_ := (Option.bind_some _ _).symm.trans H; with_reducible exact H2_) | with_reducible exact H | (rw [hy831]; exact H) | exact H
    have Ny831 := zm hy831
    clear hy831
    simp only [Option.some.injEq, Prod.mk.injEq] at H
    obtain ⟨rfl, rfl, rfl⟩ := H
    go_enter Try.func38, Try.ntmps38
    try go_wp2_with (first | ((with_reducible refine gate_dst (N := 4) rfl ?_); refine box_event ?hg (N := 4) ?hd (cs := #[.slice A0_0 l0_0.length c0_0, .slice A0_1 l0_1.length c0_1]) (t := 48) ?hr ?_; (case hd => rfl); (case hg => rfl); (case hr => first | (go_simp; done) | (go_simp; rfl)); intro gb809 hg w16 hbox hb; have n0_ := zm (below_step (zg_0 HB.out) hb); have n1_ := zm (hbox); have n2_ := zm ((by rw [hg]; exact (below_size (zg_0 HB.out)) : w.heap.size ≤ gb809)); have n3_ := zm ((by rw [hg]; exact (below_size (zg_0 HB.out)) : w.heap.size ≤ gb809)); clear HB; have HB := n0_; have Za := n1_; have Zu := n2_; have Zc := n3_; clear n0_ n1_ n2_ n3_; clear hb hbox hg) | ((with_reducible refine gate_dst (N := 8) rfl ?_); refine box_event ?hg (N := 8) ?hd (cs := #[.slice none 0 0, .slice none 0 0]) (t := 48) ?hr ?_; (case hd => rfl); (case hg => rfl); (case hr => first | (go_simp; done) | (go_simp; rfl)); intro gb810 hg w17 hbox hb; have n0_ := zm (blk_below (g := gb809) (o := .cells #[.slice A0_0 l0_0.length c0_0, .slice A0_1 l0_1.length c0_1] 48 (0, 0)) (zg_2 Za.out) hb); have n1_ := zm (below_step (zg_1 HB.out Zc.out) hb); have n2_ := zm (hbox); have n3_ := zm ((by rw [hg]; exact (below_size (zg_1 HB.out Zc.out)) : w.heap.size ≤ gb810)); have n4_ := zm ((by rw [hg]; exact (below_size (zg_1 HB.out Zc.out)) : w.heap.size ≤ gb810)); have n5_ := zm ((by rw [hg]; exact Nat.ne_of_lt (blk_lt (g := gb809) (o := .cells #[.slice A0_0 l0_0.length c0_0, .slice A0_1 l0_1.length c0_1] 48 (0, 0)) (zg_2 Za.out)) : gb809 ≠ gb810)); have n6_ := zm ((by rw [hg]; exact Nat.ne_of_gt (blk_lt (g := gb809) (o := .cells #[.slice A0_0 l0_0.length c0_0, .slice A0_1 l0_1.length c0_1] 48 (0, 0)) (zg_2 Za.out)) : gb810 ≠ gb809)); clear Za; clear HB; have Za := n0_; have HB := n1_; have Zb := n2_; have Zv := n3_; have Zf := n4_; have Zk := n5_; have Zl := n6_; clear n0_ n1_ n2_ n3_ n4_ n5_ n6_; clear hb hbox hg))
    have n0_ := zm (blk_drew Za.out)
    have n1_ := zm (blk_drew Zb.out)
    have n2_ := zm (below_drew1 HB.out)
    clear Za
    clear Zb
    clear HB
    have Za := n0_
    have Zb := n1_
    have HB := n2_
    clear n0_ n1_ n2_
    refine start_ (n := 22) (S := fun w' => w'.cell? ⟨gb809, 0, none⟩ = some (.slice A0_0 l0_0.length c0_0) ∧ w'.cell? ⟨gb809, 1, none⟩ = some (.slice A0_1 l0_1.length c0_1)) (ds := []) #[false, false, false, false, false, false, false, false, false, false, false, false, false, false, false, false, false, false, false, false, false, false] (by kernel_rfl) rfl rfl ⟨(blk_cell Za.out 0).trans rfl, (blk_cell Za.out 1).trans rfl⟩ (fun hHeld => ?_); refine with_tabW impl_WriteSector.tab1 impl_WriteSector.bits1 (fun HT_ HW_ => ?_)
    generalize w17.drew = w18 at Za Zb HB hHeld ⊢
    refine pure_ (i := 0) (N := some 13) (v := ?_) (a' := ?_) #[true, false, false, false, false, false, false, false, false, false, false, false, false, false, false, false, false, false, false, false, false, false] rfl rfl (any_of HT_.out (by kernel_rfl)) (fun _ _ _ h => h) (Or.inl ⟨by rfl, ?_⟩) ?_ ?_
    rotate_left
    ·intro w'
     go_simp
     with_reducible rfl
    rotate_left
    ·simp only [Act.put, zs, zz, zt, i64_w, i32_w]
     rfl
    refine pure_ (i := 3) (N := some 16) (v := ?_) (a' := ?_) #[true, false, false, true, false, false, false, false, false, false, false, false, false, false, false, false, false, false, false, false, false, false] rfl rfl (any_of HT_.out (by kernel_rfl)) (fun _ _ _ h => h) (Or.inl ⟨by rfl, ?_⟩) ?_ ?_
    rotate_left
    ·intro w'
     go_simp
     with_reducible rfl
    rotate_left
    ·simp only [Act.put, zs, zz, zt, i64_w, i32_w]
     rfl
    refine pure_ (i := 8) (N := some 21) (v := ?_) (a' := ?_) #[true, false, false, true, false, false, false, false, true, false, false, false, false, false, false, false, false, false, false, false, false, false] rfl rfl (any_of HT_.out (by kernel_rfl)) (fun _ _ _ h => h) (Or.inl ⟨by rfl, ?_⟩) ?_ ?_
    rotate_left
    ·intro w'
     go_simp
     with_reducible rfl
    rotate_left
    ·simp only [Act.put, zs, zz, zt, i64_w, i32_w]
     rfl
    refine pure_ (i := 9) (N := some 22) (v := ?_) (a' := ?_) #[true, false, false, true, false, false, false, false, true, true, false, false, false, false, false, false, false, false, false, false, false, false] rfl rfl (any_of HT_.out (by kernel_rfl)) (fun _ _ _ h => h) (Or.inl ⟨by rfl, ?_⟩) ?_ ?_
    rotate_left
    ·intro w'
     go_simp
     with_reducible rfl
    rotate_left
    ·simp only [Act.put, zs, zz, zt, i64_w, i32_w]
     rfl
    refine pure_ (i := 13) (N := some 26) (v := ?_) (a' := ?_) #[true, false, false, true, false, false, false, false, true, true, false, false, false, true, false, false, false, false, false, false, false, false] rfl rfl (any_of HT_.out (by kernel_rfl)) (fun _ _ _ h => h) (Or.inl ⟨by rfl, ?_⟩) ?_ ?_
    rotate_left
    ·intro w'
     go_simp
     with_reducible rfl
    rotate_left
    ·simp only [Act.put, zs, zz, zt, i64_w, i32_w]
     rfl
    refine pure_ (i := 14) (N := some 27) (v := ?_) (a' := ?_) #[true, false, false, true, false, false, false, false, true, true, false, false, false, true, true, false, false, false, false, false, false, false] rfl rfl (any_of HT_.out (by kernel_rfl)) (fun _ _ _ h => h) (Or.inl ⟨by rfl, ?_⟩) ?_ ?_
    rotate_left
    ·intro w'
     go_simp
     with_reducible rfl
    rotate_left
    ·simp only [Act.put, zs, zz, zt, i64_w, i32_w]
     rfl
    refine pure_ (i := 18) (N := some 31) (v := ?_) (a' := ?_) #[true, false, false, true, false, false, false, false, true, true, false, false, false, true, true, false, false, false, true, false, false, false] rfl rfl (any_of HT_.out (by kernel_rfl)) (fun _ _ _ h => h) (Or.inl ⟨by rfl, ?_⟩) ?_ ?_
    rotate_left
    ·intro w'
     go_simp
     with_reducible rfl
    rotate_left
    ·simp only [Act.put, zs, zz, zt, i64_w, i32_w]
     rfl
    refine take_ (i := 4) (N := some 17) (v := ?_) (a' := ?_) #[true, false, false, true, true, false, false, false, true, true, false, false, false, true, true, false, false, false, true, false, false, false] rfl rfl (take_ofW HT_.out HW_.out (by kernel_rfl)) (fun _ _ _ h => h) (Or.inl ⟨by rfl, ?_⟩) hHeld ?_ ?_
    rotate_left
    ·rintro w' ⟨s0, s1⟩
     go_simp
     with_reducible rfl
    rotate_left
    ·simp only [Act.put, zs, zz, zt, i64_w, i32_w]
     rfl
    refine one_ (i := 1) (N := some 14) #[true, true, false, true, true, false, false, false, true, true, false, false, false, true, true, false, false, false, true, false, false, false] rfl rfl (one_of HT_.out (by kernel_rfl)) (by decide) (fun K hK => ?_)
    refine goes_ Try.func55 (by kernel_rfl) rfl #[.string a3] (by rfl) rfl rfl zq ?_
    with_reducible refine (impl_isLongText.calls a3 t811 _ A5.out).mono ?_
    rintro e w' ⟨rfl, ⟨nd, rfl⟩⟩
    refine ⟨_, rfl, ?_⟩
    refine hK.out _ _ ⟨(blk_cell Za.out 0).trans rfl, (blk_cell Za.out 1).trans rfl⟩ (fun hHeld => ?_)
    clear hK K
    refine norm_ (a' := ?_) ?_ ?_
    rotate_left
    ·show Act.put _ (some 14) _ = _
     simp only [Act.put, zs, zz, zt, i64_w, i32_w]
     rfl
    refine pure_ (i := 2) (N := some 15) (v := ?_) (a' := ?_) #[true, true, true, true, true, false, false, false, true, true, false, false, false, true, true, false, false, false, true, false, false, false] rfl rfl (any_of HT_.out (by kernel_rfl)) (fun _ _ _ h => h) (Or.inl ⟨by rfl, ?_⟩) ?_ ?_
    rotate_left
    ·intro w'
     go_simp
     with_reducible rfl
    rotate_left
    ·simp only [Act.put, zs, zz, zt, i64_w, i32_w]
     rfl
    refine one_ (i := 5) (N := some 18) #[true, true, true, true, true, true, false, false, true, true, false, false, false, true, true, false, false, false, true, false, false, false] rfl rfl (one_of HT_.out (by kernel_rfl)) (by decide) (fun K hK => ?_)
    refine goes_ Try.func42 (by kernel_rfl) rfl #[.agg #[.slice A0_0 l0_0.length c0_0, .slice A0_1 l0_1.length c0_1]] (by rfl) rfl rfl zq ?_
    with_reducible refine (impl_DiskOK.calls _ _ l0_0 _ _ l0_1 t812 _ ?side1 ?side2 ?side3 ?side4 A6.out).mono ?_
    (case side1 => repeat (first | exact (Kd.C_below Zq.out (zg_3 HB.out Zc.out Zf.out)) | (with_reducible refine Kd.C_alloc ?_ _) | (with_reducible refine Kd.C_drewN ?_ _) | (with_reducible refine Kd.C_drew ?_)))
    (case side2 => exact Zr.out)
    (case side3 => repeat (first | exact (Kd.C_below Zs.out (zg_3 HB.out Zc.out Zf.out)) | (with_reducible refine Kd.C_alloc ?_ _) | (with_reducible refine Kd.C_drewN ?_ _) | (with_reducible refine Kd.C_drew ?_)))
    (case side4 => exact Zt.out)
    rintro e w19 ⟨rfl, hb⟩
    refine ⟨_, rfl, ?_⟩
    have n0_ := zm (blk_below (g := gb809) (o := .cells #[.slice A0_0 l0_0.length c0_0, .slice A0_1 l0_1.length c0_1] 48 (0, 0)) (zg_2 Za.out) hb)
    have n1_ := zm (blk_below (g := gb810) (o := .cells #[.slice none 0 0, .slice none 0 0] 48 (0, 0)) (zg_2 Zb.out) hb)
    have n2_ := zm (below_step (zg_3 HB.out Zc.out Zf.out) hb)
    clear Za
    clear Zb
    clear HB
    have Za := n0_
    have Zb := n1_
    have HB := n2_
    clear n0_ n1_ n2_
    (try clear hb)
    (try clear hb2)
    (try clear hk)
    (try clear hi)
    refine hK.out _ _ ⟨(blk_cell Za.out 0).trans rfl, (blk_cell Za.out 1).trans rfl⟩ (fun hHeld => ?_)
    clear hK K
    refine norm_ (a' := ?_) ?_ ?_
    rotate_left
    ·show Act.put _ (some 18) _ = _
     simp only [Act.put, zs, zz, zt, i64_w, i32_w]
     rfl
    refine pure_ (i := 6) (N := some 19) (v := ?_) (a' := ?_) #[true, true, true, true, true, true, true, false, true, true, false, false, false, true, true, false, false, false, true, false, false, false] rfl rfl (any_of HT_.out (by kernel_rfl)) (fun _ _ _ h => h) (Or.inl ⟨by rfl, ?_⟩) ?_ ?_
    rotate_left
    ·intro w'
     go_simp
     with_reducible rfl
    rotate_left
    ·simp only [Act.put, zs, zz, zt, i64_w, i32_w]
     rfl
    refine pure_ (i := 7) (N := some 20) (v := ?_) (a' := ?_) #[true, true, true, true, true, true, true, true, true, true, false, false, false, true, true, false, false, false, true, false, false, false] rfl rfl (any_of HT_.out (by kernel_rfl)) (fun _ _ _ h => h) (Or.inl ⟨by rfl, ?_⟩) ?_ ?_
    rotate_left
    ·intro w'
     go_simp
     with_reducible rfl
    rotate_left
    ·simp only [Act.put, zs, zz, zt, i64_w, i32_w]
     rfl
    refine one_ (i := 10) (N := some 23) #[true, true, true, true, true, true, true, true, true, true, true, false, false, true, true, false, false, false, true, false, false, false] rfl rfl (one_of HT_.out (by kernel_rfl)) (by decide) (fun K hK => ?_)
    refine goes_ Try.func56 (by kernel_rfl) rfl #[.int .i64 a1] (by rfl) rfl rfl zq ?_
    with_reducible refine (impl_isHost.calls a1 t813 _ A7.out).mono ?_
    rintro e w' ⟨rfl, ⟨nd, rfl⟩⟩
    refine ⟨_, rfl, ?_⟩
    refine hK.out _ _ ⟨(blk_cell Za.out 0).trans rfl, (blk_cell Za.out 1).trans rfl⟩ (fun hHeld => ?_)
    clear hK K
    refine norm_ (a' := ?_) ?_ ?_
    rotate_left
    ·show Act.put _ (some 23) _ = _
     simp only [Act.put, zs, zz, zt, i64_w, i32_w]
     rfl
    refine pure_ (i := 11) (N := some 24) (v := ?_) (a' := ?_) #[true, true, true, true, true, true, true, true, true, true, true, true, false, true, true, false, false, false, true, false, false, false] rfl rfl (any_of HT_.out (by kernel_rfl)) (fun _ _ _ h => h) (Or.inl ⟨by rfl, ?_⟩) ?_ ?_
    rotate_left
    ·intro w'
     go_simp
     with_reducible rfl
    rotate_left
    ·simp only [Act.put, zs, zz, zt, i64_w, i32_w]
     rfl
    refine pure_ (i := 12) (N := some 25) (v := ?_) (a' := ?_) #[true, true, true, true, true, true, true, true, true, true, true, true, true, true, true, false, false, false, true, false, false, false] rfl rfl (any_of HT_.out (by kernel_rfl)) (fun _ _ _ h => h) (Or.inl ⟨by rfl, ?_⟩) ?_ ?_
    rotate_left
    ·intro w'
     go_simp
     with_reducible rfl
    rotate_left
    ·simp only [Act.put, zs, zz, zt, i64_w, i32_w]
     rfl
    refine one_ (i := 15) (N := some 28) #[true, true, true, true, true, true, true, true, true, true, true, true, true, true, true, true, false, false, true, false, false, false] rfl rfl (one_of HT_.out (by kernel_rfl)) (by decide) (fun K hK => ?_)
    refine goes_ Try.func86 (by kernel_rfl) rfl #[.int .i64 a2] (by rfl) rfl rfl zq ?_
    with_reducible refine (impl_isPlace.calls a2 t814 _ A8.out).mono ?_
    rintro e w' ⟨rfl, ⟨nd, rfl⟩⟩
    refine ⟨_, rfl, ?_⟩
    refine hK.out _ _ ⟨(blk_cell Za.out 0).trans rfl, (blk_cell Za.out 1).trans rfl⟩ (fun hHeld => ?_)
    clear hK K
    refine norm_ (a' := ?_) ?_ ?_
    rotate_left
    ·show Act.put _ (some 28) _ = _
     simp only [Act.put, zs, zz, zt, i64_w, i32_w]
     rfl
    refine pure_ (i := 16) (N := some 29) (v := ?_) (a' := ?_) #[true, true, true, true, true, true, true, true, true, true, true, true, true, true, true, true, true, false, true, false, false, false] rfl rfl (any_of HT_.out (by kernel_rfl)) (fun _ _ _ h => h) (Or.inl ⟨by rfl, ?_⟩) ?_ ?_
    rotate_left
    ·intro w'
     go_simp
     with_reducible rfl
    rotate_left
    ·simp only [Act.put, zs, zz, zt, i64_w, i32_w]
     rfl
    refine pure_ (i := 17) (N := some 30) (v := ?_) (a' := ?_) #[true, true, true, true, true, true, true, true, true, true, true, true, true, true, true, true, true, true, true, false, false, false] rfl rfl (any_of HT_.out (by kernel_rfl)) (fun _ _ _ h => h) (Or.inl ⟨by rfl, ?_⟩) ?_ ?_
    rotate_left
    ·intro w'
     go_simp
     with_reducible rfl
    rotate_left
    ·simp only [Act.put, zs, zz, zt, i64_w, i32_w]
     rfl
    refine one_ (i := 19) (N := some 32) #[true, true, true, true, true, true, true, true, true, true, true, true, true, true, true, true, true, true, true, true, false, false] rfl rfl (one_of HT_.out (by kernel_rfl)) (by decide) (fun K hK => ?_)
    refine Kd.R_lit_step kAny _ 20 ?hg (N := 32) ?hd (xs := ([Any.b t811, Any.n 2, Any.b (!t812), Any.n 1, Any.b (!t813), Any.n 4, Any.b (!t814), Any.n 14] : List Any)) (inner := [.iface 4 (.bool t811), .iface 3 (.int .i64 2), .iface 4 (.bool (!t812)), .iface 3 (.int .i64 1), .iface 4 (.bool (!t813)), .iface 3 (.int .i64 4), .iface 4 (.bool (!t814)), .iface 3 (.int .i64 14)]) (ok := fun _ => True) (okp := fun _ => True) ?hr ?hp (fun _ hk => hk) trivial (Below.refl _ _) (Nat.le_refl _) (by simp) ?_; (case hd => rfl); (case hg => rfl); (case hr => first | (go_simp; done) | (go_simp; rfl)); (case hp => exact (Reps.one (show Kd.M kAny _ _ _ (Any.b t811) [.iface 4 (.bool t811)] from rfl) (Reps.one (show Kd.M kAny _ _ _ (Any.n 2) [.iface 3 (.int .i64 2)] from rfl) (Reps.one (show Kd.M kAny _ _ _ (Any.b (!t812)) [.iface 4 (.bool (!t812))] from rfl) (Reps.one (show Kd.M kAny _ _ _ (Any.n 1) [.iface 3 (.int .i64 1)] from rfl) (Reps.one (show Kd.M kAny _ _ _ (Any.b (!t813)) [.iface 4 (.bool (!t813))] from rfl) (Reps.one (show Kd.M kAny _ _ _ (Any.n 4) [.iface 3 (.int .i64 4)] from rfl) (Reps.one (show Kd.M kAny _ _ _ (Any.b (!t814)) [.iface 4 (.bool (!t814))] from rfl) (Reps.one (show Kd.M kAny _ _ _ (Any.n 14) [.iface 3 (.int .i64 14)] from rfl) (Reps.none _ _))))))))))
    intro v816 w20 ho21 hb hg_ hnew_
    clear hg_ hnew_
    (first | rw [← Ny815.out] at ho21 | (simp only [Int.reduceToNat] at ho21; rw [← Ny815.out] at ho21))
    have n0_ := zm (Kd.R_lower ho21 (below_size (zg_3 HB.out Zc.out Zf.out)))
    have n1_ := zm (blk_below (g := gb809) (o := .cells #[.slice A0_0 l0_0.length c0_0, .slice A0_1 l0_1.length c0_1] 48 (0, 0)) (zg_2 Za.out) hb)
    have n2_ := zm (blk_below (g := gb810) (o := .cells #[.slice none 0 0, .slice none 0 0] 48 (0, 0)) (zg_2 Zb.out) hb)
    have n3_ := zm (below_step (zg_3 HB.out Zc.out Zf.out) hb)
    clear Za
    clear Zb
    clear HB
    have Ze := n0_
    have Za := n1_
    have Zb := n2_
    have HB := n3_
    clear n0_ n1_ n2_ n3_
    clear hb ho21
    obtain ⟨Ao22, co22, eo22⟩ := Kd.R_slice Ze.out
    (first | subst eo22 | (injection eo22 with f1_ f2_ f3_; have f4_ := f1_.symm; have f5_ := f3_.symm; clear f1_ f2_ f3_; subst f4_; subst f5_))
    refine hK.out _ _ ⟨(blk_cell Za.out 0).trans rfl, (blk_cell Za.out 1).trans rfl⟩ (fun hHeld => ?_)
    clear hK K
    refine norm_ (a' := ?_) ?_ ?_
    rotate_left
    ·show Act.put _ (some 32) _ = _
     simp only [Act.put, zs, zz, zt, i64_w, i32_w]
     rfl
    refine one_ (i := 20) (N := some 33) #[true, true, true, true, true, true, true, true, true, true, true, true, true, true, true, true, true, true, true, true, true, false] rfl rfl (one_of HT_.out (by kernel_rfl)) (by decide) (fun K hK => ?_)
    refine goes_ Try.func54 (by kernel_rfl) rfl #[.slice Ao22 y815.length co22] (by rfl) rfl rfl zq ?_
    with_reducible refine (impl_first.calls _ _ y815 t818 _ ?side1 ?side2 A9.out).mono ?_
    (case side1 => repeat (first | exact (Kd.R_reads' Ze.out).2.2 | (with_reducible refine Kd.C_alloc ?_ _) | (with_reducible refine Kd.C_drewN ?_ _) | (with_reducible refine Kd.C_drew ?_)))
    (case side2 => exact (Kd.R_reads' Ze.out).2.1)
    rintro e w' ⟨rfl, ⟨nd, rfl⟩⟩
    refine ⟨_, rfl, ?_⟩
    refine hK.out _ _ ⟨(blk_cell Za.out 0).trans rfl, (blk_cell Za.out 1).trans rfl⟩ (fun hHeld => ?_)
    clear hK K
    refine norm_ (a' := ?_) ?_ ?_
    rotate_left
    ·show Act.put _ (some 33) _ = _
     simp only [Act.put, zs, zz, zt, i64_w, i32_w]
     rfl
    refine pure_ (i := 21) (N := some 10) (v := ?_) (a' := ?_) #[true, true, true, true, true, true, true, true, true, true, true, true, true, true, true, true, true, true, true, true, true, true] rfl rfl (any_of HT_.out (by kernel_rfl)) (fun _ _ _ h => h) (Or.inl ⟨by rfl, ?_⟩) ?_ ?_
    rotate_left
    ·intro w'
     go_simp
     with_reducible rfl
    rotate_left
    ·simp only [Act.put, zs, zz, zt, i64_w, i32_w]
     rfl
    refine done_ (done_of HT_.out (by kernel_rfl)) ?_
    have hnb23 := Zk.out
    have hnc23 := Zl.out
    have hcz24_0 : w20.cell? ⟨gb809, 0, none⟩ = some (.slice A0_0 l0_0.length c0_0) := (blk_cell Za.out 0).trans rfl
    have hcz24_1 : w20.cell? ⟨gb809, 1, none⟩ = some (.slice A0_1 l0_1.length c0_1) := (blk_cell Za.out 1).trans rfl
    have hfz24_0 := blk_frozen Za.out 0
    have hfz24_1 := blk_frozen Za.out 1
    try go_wp2_with (first | ((with_reducible refine gate_callee (f := 76) rfl ?_); refine goesL_ (some 39) rfl rfl Try.func76 (by kernel_rfl) rfl #[.agg #[.slice A0_0 l0_0.length c0_0, .slice A0_1 l0_1.length c0_1]] rfl zq ?_; (with_reducible refine (impl_Disk_copied.calls _ _ l0_0 _ _ l0_1 t819 t822 _ ?side1 ?side2 ?side3 ?side4 A11.out).mono ?_); (case side1 => repeat (first | exact (Kd.C_below Zq.out (zg_3 HB.out Zc.out Zf.out)) | (with_reducible refine Kd.C_alloc ?_ _) | (with_reducible refine Kd.C_drewN ?_ _) | (with_reducible refine Kd.C_drew ?_))); (case side2 => exact Zr.out); (case side3 => repeat (first | exact (Kd.C_below Zs.out (zg_3 HB.out Zc.out Zf.out)) | (with_reducible refine Kd.C_alloc ?_ _) | (with_reducible refine Kd.C_drewN ?_ _) | (with_reducible refine Kd.C_drew ?_))); (case side4 => exact Zt.out); rintro e w25 ⟨v820, v823, rfl, ho0, ho1, hb⟩; refine ⟨_, rfl, ?_⟩; have n0_ := zm (Kd.R_below (zg_4 Ze.out) hb); have n1_ := zm (Kd.R_lower ho0 (below_size (zg_3 HB.out Zc.out Zf.out))); have n2_ := zm (Kd.R_lower ho1 (below_size (zg_3 HB.out Zc.out Zf.out))); have n3_ := zm (blk_below (g := gb809) (o := .cells #[.slice A0_0 l0_0.length c0_0, .slice A0_1 l0_1.length c0_1] 48 (0, 0)) (zg_2 Za.out) hb); have n4_ := zm (blk_below (g := gb810) (o := .cells #[.slice none 0 0, .slice none 0 0] 48 (0, 0)) (zg_2 Zb.out) hb); have n5_ := zm (below_step (zg_3 HB.out Zc.out Zf.out) hb); clear Ze; clear Za; clear Zb; clear HB; have Ze := n0_; have Zh := n1_; have Zg := n2_; have Za := n3_; have Zb := n4_; have HB := n5_; clear n0_ n1_ n2_ n3_ n4_ n5_; (try clear hb); (try clear hb2); (try clear hk); (try clear hi); (try clear ho0); (try clear ho1)) | ((with_reducible refine gate_dst (N := 11) rfl ?_); refine box_event ?hg (N := 11) ?hd (cs := #[.slice none 0 0, .slice none 0 0]) (t := 48) ?hr ?_; (case hd => rfl); (case hg => rfl); (case hr => first | (go_simp; done) | (go_simp; rfl)); intro gb825 hg w26 hbox hb; have n0_ := zm (Kd.R_below (zg_4 Ze.out) hb); have n1_ := zm (Kd.R_below (zg_4 Zh.out) hb); have n2_ := zm (Kd.R_below (zg_4 Zg.out) hb); have n3_ := zm (blk_below (g := gb809) (o := .cells #[.slice A0_0 l0_0.length c0_0, .slice A0_1 l0_1.length c0_1] 48 (0, 0)) (zg_2 Za.out) hb); have n4_ := zm (blk_below (g := gb810) (o := .cells #[.slice none 0 0, .slice none 0 0] 48 (0, 0)) (zg_2 Zb.out) hb); have n5_ := zm (below_step (zg_3 HB.out Zc.out Zf.out) hb); have n6_ := zm (hbox); have n7_ := zm ((by rw [hg]; exact (below_size (zg_3 HB.out Zc.out Zf.out)) : w.heap.size ≤ gb825)); have n8_ := zm ((by rw [hg]; exact (below_size (zg_3 HB.out Zc.out Zf.out)) : w.heap.size ≤ gb825)); have n9_ := zm ((by rw [hg]; exact Nat.ne_of_lt (blk_lt (g := gb809) (o := .cells #[.slice A0_0 l0_0.length c0_0, .slice A0_1 l0_1.length c0_1] 48 (0, 0)) (zg_2 Za.out)) : gb809 ≠ gb825)); have n10_ := zm ((by rw [hg]; exact Nat.ne_of_gt (blk_lt (g := gb809) (o := .cells #[.slice A0_0 l0_0.length c0_0, .slice A0_1 l0_1.length c0_1] 48 (0, 0)) (zg_2 Za.out)) : gb825 ≠ gb809)); have n11_ := zm ((by rw [hg]; exact Nat.ne_of_lt (blk_lt (g := gb810) (o := .cells #[.slice none 0 0, .slice none 0 0] 48 (0, 0)) (zg_2 Zb.out)) : gb810 ≠ gb825)); have n12_ := zm ((by rw [hg]; exact Nat.ne_of_gt (blk_lt (g := gb810) (o := .cells #[.slice none 0 0, .slice none 0 0] 48 (0, 0)) (zg_2 Zb.out)) : gb825 ≠ gb810)); clear Ze; clear Zh; clear Zg; clear Za; clear Zb; clear HB; have Ze := n0_; have Zh := n1_; have Zg := n2_; have Za := n3_; have Zb := n4_; have HB := n5_; have Zd := n6_; have Zx := n7_; have Zm := n8_; have Zj := n9_; have Zo := n10_; have Zi := n11_; have Zp := n12_; clear n0_ n1_ n2_ n3_ n4_ n5_ n6_ n7_ n8_ n9_ n10_ n11_ n12_; clear hb hbox hg; obtain ⟨Ao27, co27, eo27⟩ := Kd.R_slice Zh.out; subst eo27; have hnb28 := Zo.out; have hnc28 := Zj.out; have hnb29 := Zp.out; have hnc29 := Zi.out; have hcz30_0 : w26.cell? ⟨gb825, 0, none⟩ = some (.slice none 0 0) := (blk_cell Zd.out 0).trans rfl; have hcz30_1 : w26.cell? ⟨gb825, 1, none⟩ = some (.slice none 0 0) := (blk_cell Zd.out 1).trans rfl; have hfz30_0 := blk_frozen Zd.out 0; have hfz30_1 := blk_frozen Zd.out 1; obtain ⟨Ao31, co31, eo31⟩ := Kd.R_slice Zg.out; subst eo31))
    have n0_ : Aside0 (Kd.R kAny 20 ((w26.setCell ⟨gb825, 0, none⟩ (.slice Ao27 t819.length co27)).setCell ⟨gb825, 1, none⟩ (.slice Ao31 t822.length co31)) w.heap.size (fun _ => True) (.slice Ao22 y815.length co22) y815) := ⟨by (with_reducible repeat (first | apply Kd.R_alloc | apply Kd.R_drewN | apply Kd.R_drew)); exact Kd.R_mono (Kd.R_far (p := ⟨gb825, 1, none⟩) (Kd.R_far (p := ⟨gb825, 0, none⟩) (Kd.R_types Ze.out Zd.out (by decide)) (fun _ hk => hk.2) (.slice Ao27 t819.length co27)) (fun _ hk => hk.2) (.slice Ao31 t822.length co31)) (fun _ hk => trivial)⟩
    have n1_ : Aside0 (Kd.R Kd.string 9 ((w26.setCell ⟨gb825, 0, none⟩ (.slice Ao27 t819.length co27)).setCell ⟨gb825, 1, none⟩ (.slice Ao31 t822.length co31)) w.heap.size (fun _ => True) (.slice Ao27 t819.length co27) t819) := ⟨by (with_reducible repeat (first | apply Kd.R_alloc | apply Kd.R_drewN | apply Kd.R_drew)); exact Kd.R_mono (Kd.R_far (p := ⟨gb825, 1, none⟩) (Kd.R_far (p := ⟨gb825, 0, none⟩) (Kd.R_types Zh.out Zd.out (by decide)) (fun _ hk => hk.2) (.slice Ao27 t819.length co27)) (fun _ hk => hk.2) (.slice Ao31 t822.length co31)) (fun _ hk => trivial)⟩
    have n2_ : Aside0 (Kd.R k92 92 ((w26.setCell ⟨gb825, 0, none⟩ (.slice Ao27 t819.length co27)).setCell ⟨gb825, 1, none⟩ (.slice Ao31 t822.length co31)) w.heap.size (fun _ => True) (.slice Ao31 t822.length co31) t822) := ⟨by (with_reducible repeat (first | apply Kd.R_alloc | apply Kd.R_drewN | apply Kd.R_drew)); exact Kd.R_mono (Kd.R_far (p := ⟨gb825, 1, none⟩) (Kd.R_far (p := ⟨gb825, 0, none⟩) (Kd.R_types Zg.out Zd.out (by decide)) (fun _ hk => hk.2) (.slice Ao27 t819.length co27)) (fun _ hk => hk.2) (.slice Ao31 t822.length co31)) (fun _ hk => trivial)⟩
    have n3_ : Aside0 (((w26.setCell ⟨gb825, 0, none⟩ (.slice Ao27 t819.length co27)).setCell ⟨gb825, 1, none⟩ (.slice Ao31 t822.length co31)).heap[gb809]? = some (.cells #[.slice A0_0 l0_0.length c0_0, .slice A0_1 l0_1.length c0_1] 48 (0, 0))) := ⟨by (with_reducible repeat (first | refine blk_drewN ?_ _ | refine blk_drew ?_ | refine blk_alloc ?_ _)); refine blk_far ?_ Zj.out _; (with_reducible repeat (first | refine blk_drewN ?_ _ | refine blk_drew ?_ | refine blk_alloc ?_ _)); refine blk_far ?_ Zj.out _; (with_reducible repeat (first | refine blk_drewN ?_ _ | refine blk_drew ?_ | refine blk_alloc ?_ _)); exact Za.out⟩
    have n4_ : Aside0 (((w26.setCell ⟨gb825, 0, none⟩ (.slice Ao27 t819.length co27)).setCell ⟨gb825, 1, none⟩ (.slice Ao31 t822.length co31)).heap[gb810]? = some (.cells #[.slice none 0 0, .slice none 0 0] 48 (0, 0))) := ⟨by (with_reducible repeat (first | refine blk_drewN ?_ _ | refine blk_drew ?_ | refine blk_alloc ?_ _)); refine blk_far ?_ Zi.out _; (with_reducible repeat (first | refine blk_drewN ?_ _ | refine blk_drew ?_ | refine blk_alloc ?_ _)); refine blk_far ?_ Zi.out _; (with_reducible repeat (first | refine blk_drewN ?_ _ | refine blk_drew ?_ | refine blk_alloc ?_ _)); exact Zb.out⟩
    have n5_ : Aside0 (((w26.setCell ⟨gb825, 0, none⟩ (.slice Ao27 t819.length co27)).setCell ⟨gb825, 1, none⟩ (.slice Ao31 t822.length co31)).heap[gb825]? = some (.cells #[.slice Ao27 t819.length co27, .slice Ao31 t822.length co31] 48 (0, 0))) := ⟨by (with_reducible repeat (first | refine blk_drewN ?_ _ | refine blk_drew ?_ | refine blk_alloc ?_ _)); refine blk_put (cs := #[.slice Ao27 t819.length co27, .slice none 0 0]) ?_ 1 _ rfl; (with_reducible repeat (first | refine blk_drewN ?_ _ | refine blk_drew ?_ | refine blk_alloc ?_ _)); refine blk_put (cs := #[.slice none 0 0, .slice none 0 0]) ?_ 0 _ rfl; (with_reducible repeat (first | refine blk_drewN ?_ _ | refine blk_drew ?_ | refine blk_alloc ?_ _)); exact Zd.out⟩
    have n6_ : Aside0 (Below w.heap.size w ((w26.setCell ⟨gb825, 0, none⟩ (.slice Ao27 t819.length co27)).setCell ⟨gb825, 1, none⟩ (.slice Ao31 t822.length co31))) := ⟨zg_5 HB.out Zc.out Zf.out Zm.out⟩
    (try clear Ze)
    (try clear Zh)
    (try clear Zg)
    (try clear Za)
    (try clear Zb)
    (try clear Zd)
    (try clear HB)
    generalize ((w26.setCell ⟨gb825, 0, none⟩ (.slice Ao27 t819.length co27)).setCell ⟨gb825, 1, none⟩ (.slice Ao31 t822.length co31)) = w32 at n0_ n1_ n2_ n3_ n4_ n5_ n6_ ⊢
    have Ze := n0_
    have Zh := n1_
    have Zg := n2_
    have Za := n3_
    have Zb := n4_
    have Zd := n5_
    have HB := n6_
    clear n0_ n1_ n2_ n3_ n4_ n5_ n6_
    have n0_ := zm (Kd.R_drew Ze.out)
    have n1_ := zm (Kd.R_drew Zh.out)
    have n2_ := zm (Kd.R_drew Zg.out)
    have n3_ := zm (blk_drew Za.out)
    have n4_ := zm (blk_drew Zb.out)
    have n5_ := zm (blk_drew Zd.out)
    have n6_ := zm (below_drew1 HB.out)
    clear Ze
    clear Zh
    clear Zg
    clear Za
    clear Zb
    clear Zd
    clear HB
    have Ze := n0_
    have Zh := n1_
    have Zg := n2_
    have Za := n3_
    have Zb := n4_
    have Zd := n5_
    have HB := n6_
    clear n0_ n1_ n2_ n3_ n4_ n5_ n6_
    refine start_ (n := 14) (S := fun w' => w'.cell? ⟨gb809, 0, none⟩ = some (.slice A0_0 l0_0.length c0_0) ∧ w'.cell? ⟨gb809, 1, none⟩ = some (.slice A0_1 l0_1.length c0_1)) (ds := []) #[false, false, false, false, false, false, false, false, false, false, false, false, false, false] (by kernel_rfl) rfl rfl ⟨(blk_cell Za.out 0).trans rfl, (blk_cell Za.out 1).trans rfl⟩ (fun hHeld => ?_); refine with_tabW impl_WriteSector.tab5 impl_WriteSector.bits5 (fun HT_ HW_ => ?_)
    generalize w32.drew = w33 at Ze Zh Zg Za Zb Zd HB hHeld ⊢
    refine pure_ (i := 0) (N := some 40) (v := ?_) (a' := ?_) #[true, false, false, false, false, false, false, false, false, false, false, false, false, false] rfl rfl (any_of HT_.out (by kernel_rfl)) (fun _ _ _ h => h) (Or.inl ⟨by rfl, ?_⟩) ?_ ?_
    rotate_left
    ·intro w'
     go_simp
     with_reducible rfl
    rotate_left
    ·simp only [Act.put, zs, zz, zt, i64_w, i32_w]
     rfl
    refine pure_ (i := 4) (N := some 44) (v := ?_) (a' := ?_) #[true, false, false, false, true, false, false, false, false, false, false, false, false, false] rfl rfl (any_of HT_.out (by kernel_rfl)) (fun _ _ _ h => h) (Or.inl ⟨by rfl, ?_⟩) ?_ ?_
    rotate_left
    ·intro w'
     go_simp
     with_reducible rfl
    rotate_left
    ·simp only [Act.put, zs, zz, zt, i64_w, i32_w]
     rfl
    refine pure_ (i := 5) (N := some 45) (v := ?_) (a' := ?_) #[true, false, false, false, true, true, false, false, false, false, false, false, false, false] rfl rfl (any_of HT_.out (by kernel_rfl)) (fun _ _ _ h => h) (Or.inl ⟨by rfl, ?_⟩) ?_ ?_
    rotate_left
    ·intro w'
     go_simp
     with_reducible rfl
    rotate_left
    ·simp only [Act.put, zs, zz, zt, i64_w, i32_w]
     rfl
    refine pure_ (i := 10) (N := some 50) (v := ?_) (a' := ?_) #[true, false, false, false, true, true, false, false, false, false, true, false, false, false] rfl rfl (any_of HT_.out (by kernel_rfl)) (fun _ _ _ h => h) (Or.inl ⟨by rfl, ?_⟩) ?_ ?_
    rotate_left
    ·intro w'
     go_simp
     with_reducible rfl
    rotate_left
    ·simp only [Act.put, zs, zz, zt, i64_w, i32_w]
     rfl
    refine take_ (i := 6) (N := some 46) (v := ?_) (a' := ?_) #[true, false, false, false, true, true, true, false, false, false, true, false, false, false] rfl rfl (take_ofW HT_.out HW_.out (by kernel_rfl)) (fun _ _ _ h => h) (Or.inl ⟨by rfl, ?_⟩) hHeld ?_ ?_
    rotate_left
    ·rintro w' ⟨s0, s1⟩
     go_simp
     with_reducible rfl
    rotate_left
    ·simp only [Act.put, zs, zz, zt, i64_w, i32_w]
     rfl
    refine pure_ (i := 7) (N := some 47) (v := ?_) (a' := ?_) #[true, false, false, false, true, true, true, true, false, false, true, false, false, false] rfl rfl (any_of HT_.out (by kernel_rfl)) (fun _ _ _ h => h) (Or.inl ⟨by rfl, ?_⟩) ?_ ?_
    rotate_left
    ·intro w'
     go_simp
     with_reducible rfl
    rotate_left
    ·simp only [Act.put, zs, zz, zt, i64_w, i32_w]
     rfl
    refine pure_ (i := 8) (N := some 48) (v := ?_) (a' := ?_) #[true, false, false, false, true, true, true, true, true, false, true, false, false, false] rfl rfl (any_of HT_.out (by kernel_rfl)) (fun _ _ _ h => h) (Or.inl ⟨by rfl, ?_⟩) ?_ ?_
    rotate_left
    ·intro w'
     go_simp
     with_reducible rfl
    rotate_left
    ·simp only [Act.put, zs, zz, zt, i64_w, i32_w]
     rfl
    refine pure_ (i := 9) (N := some 49) (v := ?_) (a' := ?_) #[true, false, false, false, true, true, true, true, true, true, true, false, false, false] rfl rfl (any_of HT_.out (by kernel_rfl)) (fun _ _ _ h => h) (Or.inl ⟨by rfl, ?_⟩) ?_ ?_
    rotate_left
    ·intro w'
     go_simp
     with_reducible rfl
    rotate_left
    ·simp only [Act.put, zs, zz, zt, i64_w, i32_w]
     rfl
    refine one_ (i := 1) (N := some 41) #[true, true, false, false, true, true, true, true, true, true, true, false, false, false] rfl rfl (one_of HT_.out (by kernel_rfl)) (by decide) (fun K hK => ?_)
    refine goes_ Try.func87 (by kernel_rfl) rfl #[.string a3] (by rfl) rfl rfl zq ?_
    with_reducible refine (impl_isSector.calls a3 t826 _ A12.out).mono ?_
    rintro e w' ⟨rfl, ⟨nd, rfl⟩⟩
    refine ⟨_, rfl, ?_⟩
    refine hK.out _ _ ⟨(blk_cell Za.out 0).trans rfl, (blk_cell Za.out 1).trans rfl⟩ (fun hHeld => ?_)
    clear hK K
    refine norm_ (a' := ?_) ?_ ?_
    rotate_left
    ·show Act.put _ (some 41) _ = _
     simp only [Act.put, zs, zz, zt, i64_w, i32_w]
     rfl
    refine pure_ (i := 2) (N := some 42) (v := ?_) (a' := ?_) #[true, true, true, false, true, true, true, true, true, true, true, false, false, false] rfl rfl (any_of HT_.out (by kernel_rfl)) (fun _ _ _ h => h) (Or.inl ⟨by rfl, ?_⟩) ?_ ?_
    rotate_left
    ·intro w'
     go_simp
     with_reducible rfl
    rotate_left
    ·simp only [Act.put, zs, zz, zt, i64_w, i32_w]
     rfl
    refine pure_ (i := 3) (N := some 43) (v := ?_) (a' := ?_) #[true, true, true, true, true, true, true, true, true, true, true, false, false, false] rfl rfl (any_of HT_.out (by kernel_rfl)) (fun _ _ _ h => h) (Or.inl ⟨by rfl, ?_⟩) ?_ ?_
    rotate_left
    ·intro w'
     go_simp
     with_reducible rfl
    rotate_left
    ·simp only [Act.put, zs, zz, zt, i64_w, i32_w]
     rfl
    refine one_ (i := 11) (N := some 51) #[true, true, true, true, true, true, true, true, true, true, true, true, false, false] rfl rfl (one_of HT_.out (by kernel_rfl)) (by decide) (fun K hK => ?_)
    refine Kd.R_lit_step kAny _ 20 ?hg (N := 51) ?hd (xs := ([Any.b (!t826), Any.n 4, Any.b ((l0_1.length : Int) == 200), Any.n 7] : List Any)) (inner := [.iface 4 (.bool (!t826)), .iface 3 (.int .i64 4), .iface 4 (.bool ((l0_1.length : Int) == 200)), .iface 3 (.int .i64 7)]) (ok := fun _ => True) (okp := fun _ => True) ?hr ?hp (fun _ hk => hk) trivial (Below.refl _ _) (Nat.le_refl _) (by simp) ?_; (case hd => rfl); (case hg => rfl); (case hr => first | (go_simp; done) | (go_simp; rfl)); (case hp => exact (Reps.one (show Kd.M kAny _ _ _ (Any.b (!t826)) [.iface 4 (.bool (!t826))] from rfl) (Reps.one (show Kd.M kAny _ _ _ (Any.n 4) [.iface 3 (.int .i64 4)] from rfl) (Reps.one (show Kd.M kAny _ _ _ (Any.b ((l0_1.length : Int) == 200)) [.iface 4 (.bool ((l0_1.length : Int) == 200))] from rfl) (Reps.one (show Kd.M kAny _ _ _ (Any.n 7) [.iface 3 (.int .i64 7)] from rfl) (Reps.none _ _))))))
    intro v828 w34 ho35 hb hg_ hnew_
    clear hg_ hnew_
    (first | rw [← Ny827.out] at ho35 | (simp only [Int.reduceToNat] at ho35; rw [← Ny827.out] at ho35))
    have n0_ := zm (Kd.R_elder' (zg_4 Ze.out) (Kd.R_base ho35) hb)
    have n1_ := zm (Kd.R_below (zg_4 Zh.out) hb)
    have n2_ := zm (Kd.R_below (zg_4 Zg.out) hb)
    have n3_ := zm (Kd.R_lower (Kd.R_new' ho35 (Kd.R_lt (zg_4 Ze.out))) (below_size (zg_5 HB.out Zc.out Zf.out Zm.out)))
    have n4_ := zm (blk_below (g := gb809) (o := .cells #[.slice A0_0 l0_0.length c0_0, .slice A0_1 l0_1.length c0_1] 48 (0, 0)) (zg_2 Za.out) hb)
    have n5_ := zm (blk_below (g := gb810) (o := .cells #[.slice none 0 0, .slice none 0 0] 48 (0, 0)) (zg_2 Zb.out) hb)
    have n6_ := zm (blk_below (g := gb825) (o := .cells #[.slice Ao27 t819.length co27, .slice Ao31 t822.length co31] 48 (0, 0)) (zg_2 Zd.out) hb)
    have n7_ := zm (below_step (zg_5 HB.out Zc.out Zf.out Zm.out) hb)
    clear Ze
    clear Zh
    clear Zg
    clear Za
    clear Zb
    clear Zd
    clear HB
    have Ze := n0_
    have Zh := n1_
    have Zg := n2_
    have Zn := n3_
    have Za := n4_
    have Zb := n5_
    have Zd := n6_
    have HB := n7_
    clear n0_ n1_ n2_ n3_ n4_ n5_ n6_ n7_
    clear hb ho35
    obtain ⟨Ao36, co36, eo36⟩ := Kd.R_slice Zn.out
    (first | subst eo36 | (injection eo36 with f1_ f2_ f3_; have f4_ := f1_.symm; have f5_ := f3_.symm; clear f1_ f2_ f3_; subst f4_; subst f5_))
    refine hK.out _ _ ⟨(blk_cell Za.out 0).trans rfl, (blk_cell Za.out 1).trans rfl⟩ (fun hHeld => ?_)
    clear hK K
    refine norm_ (a' := ?_) ?_ ?_
    rotate_left
    ·show Act.put _ (some 51) _ = _
     simp only [Act.put, zs, zz, zt, i64_w, i32_w]
     rfl
    refine one_ (i := 12) (N := some 52) #[true, true, true, true, true, true, true, true, true, true, true, true, true, false] rfl rfl (one_of HT_.out (by kernel_rfl)) (by decide) (fun K hK => ?_)
    refine goes_ Try.func54 (by kernel_rfl) rfl #[.slice Ao36 y827.length co36] (by rfl) rfl rfl zq ?_
    with_reducible refine (impl_first.calls _ _ y827 t830 _ ?side1 ?side2 A13.out).mono ?_
    (case side1 => repeat (first | exact (Kd.R_reads' Zn.out).2.2 | (with_reducible refine Kd.C_alloc ?_ _) | (with_reducible refine Kd.C_drewN ?_ _) | (with_reducible refine Kd.C_drew ?_)))
    (case side2 => exact (Kd.R_reads' Zn.out).2.1)
    rintro e w' ⟨rfl, ⟨nd, rfl⟩⟩
    refine ⟨_, rfl, ?_⟩
    refine hK.out _ _ ⟨(blk_cell Za.out 0).trans rfl, (blk_cell Za.out 1).trans rfl⟩ (fun hHeld => ?_)
    clear hK K
    refine norm_ (a' := ?_) ?_ ?_
    rotate_left
    ·show Act.put _ (some 52) _ = _
     simp only [Act.put, zs, zz, zt, i64_w, i32_w]
     rfl
    refine pure_ (i := 13) (N := some 12) (v := ?_) (a' := ?_) #[true, true, true, true, true, true, true, true, true, true, true, true, true, true] rfl rfl (any_of HT_.out (by kernel_rfl)) (fun _ _ _ h => h) (Or.inl ⟨by rfl, ?_⟩) ?_ ?_
    rotate_left
    ·intro w'
     go_simp
     with_reducible rfl
    rotate_left
    ·simp only [Act.put, zs, zz, zt, i64_w, i32_w]
     rfl
    refine done_ (done_of HT_.out (by kernel_rfl)) ?_
    have hcz37_0 : w34.cell? ⟨gb825, 0, none⟩ = some (.slice Ao27 t819.length co27) := (blk_cell Zd.out 0).trans rfl
    have hcz37_1 : w34.cell? ⟨gb825, 1, none⟩ = some (.slice Ao31 t822.length co31) := (blk_cell Zd.out 1).trans rfl
    have hfz37_0 := blk_frozen Zd.out 0
    have hfz37_1 := blk_frozen Zd.out 1
    try go_wp2_with (first | ((with_reducible refine gate_builtin (b := .append) (xs := #[.tmp 58, .tmp 63]) rfl ?_); at_builtin; refine Kd.R_append k92 (w0 := w) w.heap.size rfl (.tmp 58) (.tmp 63) 46 92 (.agg #[(.int .i64 0), (.int .i64 0), (.string ⟨#[]⟩)]) 32 rfl Try.underlying46 info92 rfl (by decide) (by omega) (.slice Ao31 t822.length co31) t822 (⟨a1, a2, a3⟩ : S92) [.int .i64 a1, .int .i64 a2, .string a3] (fun _ => True) (fun _ => False) rfl rfl ?aP (fun _ hk => hk.elim) ?aF ?aO ?aB ?aS ?aL ?_; (case aP => exact k92_mkM _ _ _ (⟨a1, a2, a3⟩ : S92)); (case aB => exact (zg_5 HB.out Zc.out Zf.out Zm.out)); (case aF => exact (fun _ _ => trivial)); (case aO => exact (zg_4 Zg.out)); (case aS => exact (below_size (zg_5 HB.out Zc.out Zf.out Zm.out))); (case aL => have := LMc15.out; omega); intro v832 w38 ho hb hg hat; rw [← Ny831.out] at ho; have n0_ := zm (blk_grown (g := gb809) (o := .cells #[.slice A0_0 l0_0.length c0_0, .slice A0_1 l0_1.length c0_1] 48 (0, 0)) (zg_2 Za.out) hg (Kd.R_ne Zg.out Za.out (by decide))); have n1_ := zm (blk_grown (g := gb810) (o := .cells #[.slice none 0 0, .slice none 0 0] 48 (0, 0)) (zg_2 Zb.out) hg (Kd.R_ne Zg.out Zb.out (by decide))); have n2_ := zm (Kd.R_over' (zg_4 Ze.out) (Kd.R_typed (zg_4 Zg.out)) (by decide) hg); have n3_ := zm (Kd.R_over' (zg_4 Zh.out) (Kd.R_typed (zg_4 Zg.out)) (by decide) hg); have n4_ := zm (blk_grown (g := gb825) (o := .cells #[.slice Ao27 t819.length co27, .slice Ao31 t822.length co31] 48 (0, 0)) (zg_2 Zd.out) hg (Kd.R_ne Zg.out Zd.out (by decide))); have n5_ := zm (Kd.R_over' (zg_4 Zn.out) (Kd.R_typed (zg_4 Zg.out)) (by decide) hg); have n6_ := zm (hb); have n7_ := zm (ho); clear Za; clear Zb; clear Ze; clear Zh; clear Zd; clear Zn; clear HB; clear Zg; have Za := n0_; have Zb := n1_; have Ze := n2_; have Zh := n3_; have Zd := n4_; have Zn := n5_; have HB := n6_; have Zw := n7_; clear n0_ n1_ n2_ n3_ n4_ n5_ n6_ n7_; clear ho hb hg hat; obtain ⟨Ao39, co39, eo39⟩ := Kd.R_slice Zw.out; subst eo39; have hcz40_0 : w38.cell? ⟨gb825, 0, none⟩ = some (.slice Ao27 t819.length co27) := (blk_cell Zd.out 0).trans rfl; have hcz40_1 : w38.cell? ⟨gb825, 1, none⟩ = some (.slice Ao31 t822.length co31) := (blk_cell Zd.out 1).trans rfl; have hfz40_0 := blk_frozen Zd.out 0; have hfz40_1 := blk_frozen Zd.out 1; have hcz41_0 : w38.cell? ⟨gb810, 0, none⟩ = some (.slice none 0 0) := (blk_cell Zb.out 0).trans rfl; have hcz41_1 : w38.cell? ⟨gb810, 1, none⟩ = some (.slice none 0 0) := (blk_cell Zb.out 1).trans rfl; have hfz41_0 := blk_frozen Zb.out 0; have hfz41_1 := blk_frozen Zb.out 1))
    refine bodyPost_ret (results_ct rfl _ _ gb810 48 #[.slice Ao27 t819.length co27, .slice Ao39 y831.length co39] (0, 0) _ rfl (by (with_reducible repeat (first | refine blk_drewN ?_ _ | refine blk_drew ?_ | refine blk_alloc ?_ _)); refine blk_put (cs := #[.slice Ao27 t819.length co27, .slice none 0 0]) ?_ 1 _ rfl; (with_reducible repeat (first | refine blk_drewN ?_ _ | refine blk_drew ?_ | refine blk_alloc ?_ _)); refine blk_put (cs := #[.slice none 0 0, .slice none 0 0]) ?_ 0 _ rfl; (with_reducible repeat (first | refine blk_drewN ?_ _ | refine blk_drew ?_ | refine blk_alloc ?_ _)); refine blk_far ?_ Zi.out _; (with_reducible repeat (first | refine blk_drewN ?_ _ | refine blk_drew ?_ | refine blk_alloc ?_ _)); exact Zb.out) Try.underlying48 rfl (by kernel_rfl)) rfl ?_
    exact ⟨_, _, by first | rfl | (simp [errW_none, errW_some] <;> rfl) | (simp [*, errW_none, errW_some] <;> rfl), by (with_reducible repeat (first | apply Kd.R_alloc | apply Kd.R_drewN | apply Kd.R_drew)); exact Kd.R_mono (Kd.R_far (p := ⟨gb810, 1, none⟩) (Kd.R_far (p := ⟨gb810, 0, none⟩) (Kd.R_far (p := ⟨gb825, 1, none⟩) (Kd.R_types (Kd.R_types Zh.out Zd.out (by decide)) Zb.out (by decide)) (fun _ hk => hk.1.2) (.slice Ao39 y831.length co39)) (fun _ hk => hk.2) (.slice Ao27 t819.length co27)) (fun _ hk => hk.2) (.slice Ao39 y831.length co39)) (fun _ hk => trivial), by (with_reducible repeat (first | apply Kd.R_alloc | apply Kd.R_drewN | apply Kd.R_drew)); exact Kd.R_mono (Kd.R_far (p := ⟨gb810, 1, none⟩) (Kd.R_far (p := ⟨gb810, 0, none⟩) (Kd.R_far (p := ⟨gb825, 1, none⟩) (Kd.R_types (Kd.R_types Zw.out Zd.out (by decide)) Zb.out (by decide)) (fun _ hk => hk.1.2) (.slice Ao39 y831.length co39)) (fun _ hk => hk.2) (.slice Ao27 t819.length co27)) (fun _ hk => hk.2) (.slice Ao39 y831.length co39)) (fun _ hk => trivial), zg_5 HB.out Zc.out Zf.out Zm.out⟩
   ·rw [if_neg c15] at H
    exact absurd H (by simp)
  ·rw [if_neg c14] at H
   have c14b0 : (t830 == 0) = false := beq_eq_false_iff_ne.mpr c14
   have c14b1 : (t830 != 0) = true := bne_iff_ne.mpr c14
   simp only [Option.some.injEq, Prod.mk.injEq] at H
   obtain ⟨rfl, rfl, rfl⟩ := H
   go_enter Try.func38, Try.ntmps38
   try go_wp2_with (first | ((with_reducible refine gate_dst (N := 4) rfl ?_); refine box_event ?hg (N := 4) ?hd (cs := #[.slice A0_0 l0_0.length c0_0, .slice A0_1 l0_1.length c0_1]) (t := 48) ?hr ?_; (case hd => rfl); (case hg => rfl); (case hr => first | (go_simp; done) | (go_simp; rfl)); intro gb809 hg w42 hbox hb; have n0_ := zm (below_step (zg_0 HB.out) hb); have n1_ := zm (hbox); have n2_ := zm ((by rw [hg]; exact (below_size (zg_0 HB.out)) : w.heap.size ≤ gb809)); have n3_ := zm ((by rw [hg]; exact (below_size (zg_0 HB.out)) : w.heap.size ≤ gb809)); clear HB; have HB := n0_; have Za := n1_; have Zu := n2_; have Zc := n3_; clear n0_ n1_ n2_ n3_; clear hb hbox hg) | ((with_reducible refine gate_dst (N := 8) rfl ?_); refine box_event ?hg (N := 8) ?hd (cs := #[.slice none 0 0, .slice none 0 0]) (t := 48) ?hr ?_; (case hd => rfl); (case hg => rfl); (case hr => first | (go_simp; done) | (go_simp; rfl)); intro gb810 hg w43 hbox hb; have n0_ := zm (blk_below (g := gb809) (o := .cells #[.slice A0_0 l0_0.length c0_0, .slice A0_1 l0_1.length c0_1] 48 (0, 0)) (zg_2 Za.out) hb); have n1_ := zm (below_step (zg_1 HB.out Zc.out) hb); have n2_ := zm (hbox); have n3_ := zm ((by rw [hg]; exact (below_size (zg_1 HB.out Zc.out)) : w.heap.size ≤ gb810)); have n4_ := zm ((by rw [hg]; exact (below_size (zg_1 HB.out Zc.out)) : w.heap.size ≤ gb810)); have n5_ := zm ((by rw [hg]; exact Nat.ne_of_lt (blk_lt (g := gb809) (o := .cells #[.slice A0_0 l0_0.length c0_0, .slice A0_1 l0_1.length c0_1] 48 (0, 0)) (zg_2 Za.out)) : gb809 ≠ gb810)); have n6_ := zm ((by rw [hg]; exact Nat.ne_of_gt (blk_lt (g := gb809) (o := .cells #[.slice A0_0 l0_0.length c0_0, .slice A0_1 l0_1.length c0_1] 48 (0, 0)) (zg_2 Za.out)) : gb810 ≠ gb809)); clear Za; clear HB; have Za := n0_; have HB := n1_; have Zb := n2_; have Zv := n3_; have Zf := n4_; have Zk := n5_; have Zl := n6_; clear n0_ n1_ n2_ n3_ n4_ n5_ n6_; clear hb hbox hg))
   have n0_ := zm (blk_drew Za.out)
   have n1_ := zm (blk_drew Zb.out)
   have n2_ := zm (below_drew1 HB.out)
   clear Za
   clear Zb
   clear HB
   have Za := n0_
   have Zb := n1_
   have HB := n2_
   clear n0_ n1_ n2_
   refine start_ (n := 22) (S := fun w' => w'.cell? ⟨gb809, 0, none⟩ = some (.slice A0_0 l0_0.length c0_0) ∧ w'.cell? ⟨gb809, 1, none⟩ = some (.slice A0_1 l0_1.length c0_1)) (ds := []) #[false, false, false, false, false, false, false, false, false, false, false, false, false, false, false, false, false, false, false, false, false, false] (by kernel_rfl) rfl rfl ⟨(blk_cell Za.out 0).trans rfl, (blk_cell Za.out 1).trans rfl⟩ (fun hHeld => ?_); refine with_tabW impl_WriteSector.tab1 impl_WriteSector.bits1 (fun HT_ HW_ => ?_)
   generalize w43.drew = w44 at Za Zb HB hHeld ⊢
   refine pure_ (i := 0) (N := some 13) (v := ?_) (a' := ?_) #[true, false, false, false, false, false, false, false, false, false, false, false, false, false, false, false, false, false, false, false, false, false] rfl rfl (any_of HT_.out (by kernel_rfl)) (fun _ _ _ h => h) (Or.inl ⟨by rfl, ?_⟩) ?_ ?_
   rotate_left
   ·intro w'
    go_simp
    with_reducible rfl
   rotate_left
   ·simp only [Act.put, zs, zz, zt, i64_w, i32_w]
    rfl
   refine pure_ (i := 3) (N := some 16) (v := ?_) (a' := ?_) #[true, false, false, true, false, false, false, false, false, false, false, false, false, false, false, false, false, false, false, false, false, false] rfl rfl (any_of HT_.out (by kernel_rfl)) (fun _ _ _ h => h) (Or.inl ⟨by rfl, ?_⟩) ?_ ?_
   rotate_left
   ·intro w'
    go_simp
    with_reducible rfl
   rotate_left
   ·simp only [Act.put, zs, zz, zt, i64_w, i32_w]
    rfl
   refine pure_ (i := 8) (N := some 21) (v := ?_) (a' := ?_) #[true, false, false, true, false, false, false, false, true, false, false, false, false, false, false, false, false, false, false, false, false, false] rfl rfl (any_of HT_.out (by kernel_rfl)) (fun _ _ _ h => h) (Or.inl ⟨by rfl, ?_⟩) ?_ ?_
   rotate_left
   ·intro w'
    go_simp
    with_reducible rfl
   rotate_left
   ·simp only [Act.put, zs, zz, zt, i64_w, i32_w]
    rfl
   refine pure_ (i := 9) (N := some 22) (v := ?_) (a' := ?_) #[true, false, false, true, false, false, false, false, true, true, false, false, false, false, false, false, false, false, false, false, false, false] rfl rfl (any_of HT_.out (by kernel_rfl)) (fun _ _ _ h => h) (Or.inl ⟨by rfl, ?_⟩) ?_ ?_
   rotate_left
   ·intro w'
    go_simp
    with_reducible rfl
   rotate_left
   ·simp only [Act.put, zs, zz, zt, i64_w, i32_w]
    rfl
   refine pure_ (i := 13) (N := some 26) (v := ?_) (a' := ?_) #[true, false, false, true, false, false, false, false, true, true, false, false, false, true, false, false, false, false, false, false, false, false] rfl rfl (any_of HT_.out (by kernel_rfl)) (fun _ _ _ h => h) (Or.inl ⟨by rfl, ?_⟩) ?_ ?_
   rotate_left
   ·intro w'
    go_simp
    with_reducible rfl
   rotate_left
   ·simp only [Act.put, zs, zz, zt, i64_w, i32_w]
    rfl
   refine pure_ (i := 14) (N := some 27) (v := ?_) (a' := ?_) #[true, false, false, true, false, false, false, false, true, true, false, false, false, true, true, false, false, false, false, false, false, false] rfl rfl (any_of HT_.out (by kernel_rfl)) (fun _ _ _ h => h) (Or.inl ⟨by rfl, ?_⟩) ?_ ?_
   rotate_left
   ·intro w'
    go_simp
    with_reducible rfl
   rotate_left
   ·simp only [Act.put, zs, zz, zt, i64_w, i32_w]
    rfl
   refine pure_ (i := 18) (N := some 31) (v := ?_) (a' := ?_) #[true, false, false, true, false, false, false, false, true, true, false, false, false, true, true, false, false, false, true, false, false, false] rfl rfl (any_of HT_.out (by kernel_rfl)) (fun _ _ _ h => h) (Or.inl ⟨by rfl, ?_⟩) ?_ ?_
   rotate_left
   ·intro w'
    go_simp
    with_reducible rfl
   rotate_left
   ·simp only [Act.put, zs, zz, zt, i64_w, i32_w]
    rfl
   refine take_ (i := 4) (N := some 17) (v := ?_) (a' := ?_) #[true, false, false, true, true, false, false, false, true, true, false, false, false, true, true, false, false, false, true, false, false, false] rfl rfl (take_ofW HT_.out HW_.out (by kernel_rfl)) (fun _ _ _ h => h) (Or.inl ⟨by rfl, ?_⟩) hHeld ?_ ?_
   rotate_left
   ·rintro w' ⟨s0, s1⟩
    go_simp
    with_reducible rfl
   rotate_left
   ·simp only [Act.put, zs, zz, zt, i64_w, i32_w]
    rfl
   refine one_ (i := 1) (N := some 14) #[true, true, false, true, true, false, false, false, true, true, false, false, false, true, true, false, false, false, true, false, false, false] rfl rfl (one_of HT_.out (by kernel_rfl)) (by decide) (fun K hK => ?_)
   refine goes_ Try.func55 (by kernel_rfl) rfl #[.string a3] (by rfl) rfl rfl zq ?_
   with_reducible refine (impl_isLongText.calls a3 t811 _ A5.out).mono ?_
   rintro e w' ⟨rfl, ⟨nd, rfl⟩⟩
   refine ⟨_, rfl, ?_⟩
   refine hK.out _ _ ⟨(blk_cell Za.out 0).trans rfl, (blk_cell Za.out 1).trans rfl⟩ (fun hHeld => ?_)
   clear hK K
   refine norm_ (a' := ?_) ?_ ?_
   rotate_left
   ·show Act.put _ (some 14) _ = _
    simp only [Act.put, zs, zz, zt, i64_w, i32_w]
    rfl
   refine pure_ (i := 2) (N := some 15) (v := ?_) (a' := ?_) #[true, true, true, true, true, false, false, false, true, true, false, false, false, true, true, false, false, false, true, false, false, false] rfl rfl (any_of HT_.out (by kernel_rfl)) (fun _ _ _ h => h) (Or.inl ⟨by rfl, ?_⟩) ?_ ?_
   rotate_left
   ·intro w'
    go_simp
    with_reducible rfl
   rotate_left
   ·simp only [Act.put, zs, zz, zt, i64_w, i32_w]
    rfl
   refine one_ (i := 5) (N := some 18) #[true, true, true, true, true, true, false, false, true, true, false, false, false, true, true, false, false, false, true, false, false, false] rfl rfl (one_of HT_.out (by kernel_rfl)) (by decide) (fun K hK => ?_)
   refine goes_ Try.func42 (by kernel_rfl) rfl #[.agg #[.slice A0_0 l0_0.length c0_0, .slice A0_1 l0_1.length c0_1]] (by rfl) rfl rfl zq ?_
   with_reducible refine (impl_DiskOK.calls _ _ l0_0 _ _ l0_1 t812 _ ?side1 ?side2 ?side3 ?side4 A6.out).mono ?_
   (case side1 => repeat (first | exact (Kd.C_below Zq.out (zg_3 HB.out Zc.out Zf.out)) | (with_reducible refine Kd.C_alloc ?_ _) | (with_reducible refine Kd.C_drewN ?_ _) | (with_reducible refine Kd.C_drew ?_)))
   (case side2 => exact Zr.out)
   (case side3 => repeat (first | exact (Kd.C_below Zs.out (zg_3 HB.out Zc.out Zf.out)) | (with_reducible refine Kd.C_alloc ?_ _) | (with_reducible refine Kd.C_drewN ?_ _) | (with_reducible refine Kd.C_drew ?_)))
   (case side4 => exact Zt.out)
   rintro e w45 ⟨rfl, hb⟩
   refine ⟨_, rfl, ?_⟩
   have n0_ := zm (blk_below (g := gb809) (o := .cells #[.slice A0_0 l0_0.length c0_0, .slice A0_1 l0_1.length c0_1] 48 (0, 0)) (zg_2 Za.out) hb)
   have n1_ := zm (blk_below (g := gb810) (o := .cells #[.slice none 0 0, .slice none 0 0] 48 (0, 0)) (zg_2 Zb.out) hb)
   have n2_ := zm (below_step (zg_3 HB.out Zc.out Zf.out) hb)
   clear Za
   clear Zb
   clear HB
   have Za := n0_
   have Zb := n1_
   have HB := n2_
   clear n0_ n1_ n2_
   (try clear hb)
   (try clear hb2)
   (try clear hk)
   (try clear hi)
   refine hK.out _ _ ⟨(blk_cell Za.out 0).trans rfl, (blk_cell Za.out 1).trans rfl⟩ (fun hHeld => ?_)
   clear hK K
   refine norm_ (a' := ?_) ?_ ?_
   rotate_left
   ·show Act.put _ (some 18) _ = _
    simp only [Act.put, zs, zz, zt, i64_w, i32_w]
    rfl
   refine pure_ (i := 6) (N := some 19) (v := ?_) (a' := ?_) #[true, true, true, true, true, true, true, false, true, true, false, false, false, true, true, false, false, false, true, false, false, false] rfl rfl (any_of HT_.out (by kernel_rfl)) (fun _ _ _ h => h) (Or.inl ⟨by rfl, ?_⟩) ?_ ?_
   rotate_left
   ·intro w'
    go_simp
    with_reducible rfl
   rotate_left
   ·simp only [Act.put, zs, zz, zt, i64_w, i32_w]
    rfl
   refine pure_ (i := 7) (N := some 20) (v := ?_) (a' := ?_) #[true, true, true, true, true, true, true, true, true, true, false, false, false, true, true, false, false, false, true, false, false, false] rfl rfl (any_of HT_.out (by kernel_rfl)) (fun _ _ _ h => h) (Or.inl ⟨by rfl, ?_⟩) ?_ ?_
   rotate_left
   ·intro w'
    go_simp
    with_reducible rfl
   rotate_left
   ·simp only [Act.put, zs, zz, zt, i64_w, i32_w]
    rfl
   refine one_ (i := 10) (N := some 23) #[true, true, true, true, true, true, true, true, true, true, true, false, false, true, true, false, false, false, true, false, false, false] rfl rfl (one_of HT_.out (by kernel_rfl)) (by decide) (fun K hK => ?_)
   refine goes_ Try.func56 (by kernel_rfl) rfl #[.int .i64 a1] (by rfl) rfl rfl zq ?_
   with_reducible refine (impl_isHost.calls a1 t813 _ A7.out).mono ?_
   rintro e w' ⟨rfl, ⟨nd, rfl⟩⟩
   refine ⟨_, rfl, ?_⟩
   refine hK.out _ _ ⟨(blk_cell Za.out 0).trans rfl, (blk_cell Za.out 1).trans rfl⟩ (fun hHeld => ?_)
   clear hK K
   refine norm_ (a' := ?_) ?_ ?_
   rotate_left
   ·show Act.put _ (some 23) _ = _
    simp only [Act.put, zs, zz, zt, i64_w, i32_w]
    rfl
   refine pure_ (i := 11) (N := some 24) (v := ?_) (a' := ?_) #[true, true, true, true, true, true, true, true, true, true, true, true, false, true, true, false, false, false, true, false, false, false] rfl rfl (any_of HT_.out (by kernel_rfl)) (fun _ _ _ h => h) (Or.inl ⟨by rfl, ?_⟩) ?_ ?_
   rotate_left
   ·intro w'
    go_simp
    with_reducible rfl
   rotate_left
   ·simp only [Act.put, zs, zz, zt, i64_w, i32_w]
    rfl
   refine pure_ (i := 12) (N := some 25) (v := ?_) (a' := ?_) #[true, true, true, true, true, true, true, true, true, true, true, true, true, true, true, false, false, false, true, false, false, false] rfl rfl (any_of HT_.out (by kernel_rfl)) (fun _ _ _ h => h) (Or.inl ⟨by rfl, ?_⟩) ?_ ?_
   rotate_left
   ·intro w'
    go_simp
    with_reducible rfl
   rotate_left
   ·simp only [Act.put, zs, zz, zt, i64_w, i32_w]
    rfl
   refine one_ (i := 15) (N := some 28) #[true, true, true, true, true, true, true, true, true, true, true, true, true, true, true, true, false, false, true, false, false, false] rfl rfl (one_of HT_.out (by kernel_rfl)) (by decide) (fun K hK => ?_)
   refine goes_ Try.func86 (by kernel_rfl) rfl #[.int .i64 a2] (by rfl) rfl rfl zq ?_
   with_reducible refine (impl_isPlace.calls a2 t814 _ A8.out).mono ?_
   rintro e w' ⟨rfl, ⟨nd, rfl⟩⟩
   refine ⟨_, rfl, ?_⟩
   refine hK.out _ _ ⟨(blk_cell Za.out 0).trans rfl, (blk_cell Za.out 1).trans rfl⟩ (fun hHeld => ?_)
   clear hK K
   refine norm_ (a' := ?_) ?_ ?_
   rotate_left
   ·show Act.put _ (some 28) _ = _
    simp only [Act.put, zs, zz, zt, i64_w, i32_w]
    rfl
   refine pure_ (i := 16) (N := some 29) (v := ?_) (a' := ?_) #[true, true, true, true, true, true, true, true, true, true, true, true, true, true, true, true, true, false, true, false, false, false] rfl rfl (any_of HT_.out (by kernel_rfl)) (fun _ _ _ h => h) (Or.inl ⟨by rfl, ?_⟩) ?_ ?_
   rotate_left
   ·intro w'
    go_simp
    with_reducible rfl
   rotate_left
   ·simp only [Act.put, zs, zz, zt, i64_w, i32_w]
    rfl
   refine pure_ (i := 17) (N := some 30) (v := ?_) (a' := ?_) #[true, true, true, true, true, true, true, true, true, true, true, true, true, true, true, true, true, true, true, false, false, false] rfl rfl (any_of HT_.out (by kernel_rfl)) (fun _ _ _ h => h) (Or.inl ⟨by rfl, ?_⟩) ?_ ?_
   rotate_left
   ·intro w'
    go_simp
    with_reducible rfl
   rotate_left
   ·simp only [Act.put, zs, zz, zt, i64_w, i32_w]
    rfl
   refine one_ (i := 19) (N := some 32) #[true, true, true, true, true, true, true, true, true, true, true, true, true, true, true, true, true, true, true, true, false, false] rfl rfl (one_of HT_.out (by kernel_rfl)) (by decide) (fun K hK => ?_)
   refine Kd.R_lit_step kAny _ 20 ?hg (N := 32) ?hd (xs := ([Any.b t811, Any.n 2, Any.b (!t812), Any.n 1, Any.b (!t813), Any.n 4, Any.b (!t814), Any.n 14] : List Any)) (inner := [.iface 4 (.bool t811), .iface 3 (.int .i64 2), .iface 4 (.bool (!t812)), .iface 3 (.int .i64 1), .iface 4 (.bool (!t813)), .iface 3 (.int .i64 4), .iface 4 (.bool (!t814)), .iface 3 (.int .i64 14)]) (ok := fun _ => True) (okp := fun _ => True) ?hr ?hp (fun _ hk => hk) trivial (Below.refl _ _) (Nat.le_refl _) (by simp) ?_; (case hd => rfl); (case hg => rfl); (case hr => first | (go_simp; done) | (go_simp; rfl)); (case hp => exact (Reps.one (show Kd.M kAny _ _ _ (Any.b t811) [.iface 4 (.bool t811)] from rfl) (Reps.one (show Kd.M kAny _ _ _ (Any.n 2) [.iface 3 (.int .i64 2)] from rfl) (Reps.one (show Kd.M kAny _ _ _ (Any.b (!t812)) [.iface 4 (.bool (!t812))] from rfl) (Reps.one (show Kd.M kAny _ _ _ (Any.n 1) [.iface 3 (.int .i64 1)] from rfl) (Reps.one (show Kd.M kAny _ _ _ (Any.b (!t813)) [.iface 4 (.bool (!t813))] from rfl) (Reps.one (show Kd.M kAny _ _ _ (Any.n 4) [.iface 3 (.int .i64 4)] from rfl) (Reps.one (show Kd.M kAny _ _ _ (Any.b (!t814)) [.iface 4 (.bool (!t814))] from rfl) (Reps.one (show Kd.M kAny _ _ _ (Any.n 14) [.iface 3 (.int .i64 14)] from rfl) (Reps.none _ _))))))))))
   intro v816 w46 ho47 hb hg_ hnew_
   clear hg_ hnew_
   (first | rw [← Ny815.out] at ho47 | (simp only [Int.reduceToNat] at ho47; rw [← Ny815.out] at ho47))
   have n0_ := zm (Kd.R_lower ho47 (below_size (zg_3 HB.out Zc.out Zf.out)))
   have n1_ := zm (blk_below (g := gb809) (o := .cells #[.slice A0_0 l0_0.length c0_0, .slice A0_1 l0_1.length c0_1] 48 (0, 0)) (zg_2 Za.out) hb)
   have n2_ := zm (blk_below (g := gb810) (o := .cells #[.slice none 0 0, .slice none 0 0] 48 (0, 0)) (zg_2 Zb.out) hb)
   have n3_ := zm (below_step (zg_3 HB.out Zc.out Zf.out) hb)
   clear Za
   clear Zb
   clear HB
   have Ze := n0_
   have Za := n1_
   have Zb := n2_
   have HB := n3_
   clear n0_ n1_ n2_ n3_
   clear hb ho47
   obtain ⟨Ao48, co48, eo48⟩ := Kd.R_slice Ze.out
   (first | subst eo48 | (injection eo48 with f1_ f2_ f3_; have f4_ := f1_.symm; have f5_ := f3_.symm; clear f1_ f2_ f3_; subst f4_; subst f5_))
   refine hK.out _ _ ⟨(blk_cell Za.out 0).trans rfl, (blk_cell Za.out 1).trans rfl⟩ (fun hHeld => ?_)
   clear hK K
   refine norm_ (a' := ?_) ?_ ?_
   rotate_left
   ·show Act.put _ (some 32) _ = _
    simp only [Act.put, zs, zz, zt, i64_w, i32_w]
    rfl
   refine one_ (i := 20) (N := some 33) #[true, true, true, true, true, true, true, true, true, true, true, true, true, true, true, true, true, true, true, true, true, false] rfl rfl (one_of HT_.out (by kernel_rfl)) (by decide) (fun K hK => ?_)
   refine goes_ Try.func54 (by kernel_rfl) rfl #[.slice Ao48 y815.length co48] (by rfl) rfl rfl zq ?_
   with_reducible refine (impl_first.calls _ _ y815 t818 _ ?side1 ?side2 A9.out).mono ?_
   (case side1 => repeat (first | exact (Kd.R_reads' Ze.out).2.2 | (with_reducible refine Kd.C_alloc ?_ _) | (with_reducible refine Kd.C_drewN ?_ _) | (with_reducible refine Kd.C_drew ?_)))
   (case side2 => exact (Kd.R_reads' Ze.out).2.1)
   rintro e w' ⟨rfl, ⟨nd, rfl⟩⟩
   refine ⟨_, rfl, ?_⟩
   refine hK.out _ _ ⟨(blk_cell Za.out 0).trans rfl, (blk_cell Za.out 1).trans rfl⟩ (fun hHeld => ?_)
   clear hK K
   refine norm_ (a' := ?_) ?_ ?_
   rotate_left
   ·show Act.put _ (some 33) _ = _
    simp only [Act.put, zs, zz, zt, i64_w, i32_w]
    rfl
   refine pure_ (i := 21) (N := some 10) (v := ?_) (a' := ?_) #[true, true, true, true, true, true, true, true, true, true, true, true, true, true, true, true, true, true, true, true, true, true] rfl rfl (any_of HT_.out (by kernel_rfl)) (fun _ _ _ h => h) (Or.inl ⟨by rfl, ?_⟩) ?_ ?_
   rotate_left
   ·intro w'
    go_simp
    with_reducible rfl
   rotate_left
   ·simp only [Act.put, zs, zz, zt, i64_w, i32_w]
    rfl
   refine done_ (done_of HT_.out (by kernel_rfl)) ?_
   have hnb49 := Zk.out
   have hnc49 := Zl.out
   have hcz50_0 : w46.cell? ⟨gb809, 0, none⟩ = some (.slice A0_0 l0_0.length c0_0) := (blk_cell Za.out 0).trans rfl
   have hcz50_1 : w46.cell? ⟨gb809, 1, none⟩ = some (.slice A0_1 l0_1.length c0_1) := (blk_cell Za.out 1).trans rfl
   have hfz50_0 := blk_frozen Za.out 0
   have hfz50_1 := blk_frozen Za.out 1
   try go_wp2_with (first | ((with_reducible refine gate_callee (f := 76) rfl ?_); refine goesL_ (some 39) rfl rfl Try.func76 (by kernel_rfl) rfl #[.agg #[.slice A0_0 l0_0.length c0_0, .slice A0_1 l0_1.length c0_1]] rfl zq ?_; (with_reducible refine (impl_Disk_copied.calls _ _ l0_0 _ _ l0_1 t819 t822 _ ?side1 ?side2 ?side3 ?side4 A11.out).mono ?_); (case side1 => repeat (first | exact (Kd.C_below Zq.out (zg_3 HB.out Zc.out Zf.out)) | (with_reducible refine Kd.C_alloc ?_ _) | (with_reducible refine Kd.C_drewN ?_ _) | (with_reducible refine Kd.C_drew ?_))); (case side2 => exact Zr.out); (case side3 => repeat (first | exact (Kd.C_below Zs.out (zg_3 HB.out Zc.out Zf.out)) | (with_reducible refine Kd.C_alloc ?_ _) | (with_reducible refine Kd.C_drewN ?_ _) | (with_reducible refine Kd.C_drew ?_))); (case side4 => exact Zt.out); rintro e w51 ⟨v820, v823, rfl, ho0, ho1, hb⟩; refine ⟨_, rfl, ?_⟩; have n0_ := zm (Kd.R_below (zg_4 Ze.out) hb); have n1_ := zm (Kd.R_lower ho0 (below_size (zg_3 HB.out Zc.out Zf.out))); have n2_ := zm (Kd.R_lower ho1 (below_size (zg_3 HB.out Zc.out Zf.out))); have n3_ := zm (blk_below (g := gb809) (o := .cells #[.slice A0_0 l0_0.length c0_0, .slice A0_1 l0_1.length c0_1] 48 (0, 0)) (zg_2 Za.out) hb); have n4_ := zm (blk_below (g := gb810) (o := .cells #[.slice none 0 0, .slice none 0 0] 48 (0, 0)) (zg_2 Zb.out) hb); have n5_ := zm (below_step (zg_3 HB.out Zc.out Zf.out) hb); clear Ze; clear Za; clear Zb; clear HB; have Ze := n0_; have Zh := n1_; have Zg := n2_; have Za := n3_; have Zb := n4_; have HB := n5_; clear n0_ n1_ n2_ n3_ n4_ n5_; (try clear hb); (try clear hb2); (try clear hk); (try clear hi); (try clear ho0); (try clear ho1)) | ((with_reducible refine gate_dst (N := 11) rfl ?_); refine box_event ?hg (N := 11) ?hd (cs := #[.slice none 0 0, .slice none 0 0]) (t := 48) ?hr ?_; (case hd => rfl); (case hg => rfl); (case hr => first | (go_simp; done) | (go_simp; rfl)); intro gb825 hg w52 hbox hb; have n0_ := zm (Kd.R_below (zg_4 Ze.out) hb); have n1_ := zm (Kd.R_below (zg_4 Zh.out) hb); have n2_ := zm (Kd.R_below (zg_4 Zg.out) hb); have n3_ := zm (blk_below (g := gb809) (o := .cells #[.slice A0_0 l0_0.length c0_0, .slice A0_1 l0_1.length c0_1] 48 (0, 0)) (zg_2 Za.out) hb); have n4_ := zm (blk_below (g := gb810) (o := .cells #[.slice none 0 0, .slice none 0 0] 48 (0, 0)) (zg_2 Zb.out) hb); have n5_ := zm (below_step (zg_3 HB.out Zc.out Zf.out) hb); have n6_ := zm (hbox); have n7_ := zm ((by rw [hg]; exact (below_size (zg_3 HB.out Zc.out Zf.out)) : w.heap.size ≤ gb825)); have n8_ := zm ((by rw [hg]; exact (below_size (zg_3 HB.out Zc.out Zf.out)) : w.heap.size ≤ gb825)); have n9_ := zm ((by rw [hg]; exact Nat.ne_of_lt (blk_lt (g := gb809) (o := .cells #[.slice A0_0 l0_0.length c0_0, .slice A0_1 l0_1.length c0_1] 48 (0, 0)) (zg_2 Za.out)) : gb809 ≠ gb825)); have n10_ := zm ((by rw [hg]; exact Nat.ne_of_gt (blk_lt (g := gb809) (o := .cells #[.slice A0_0 l0_0.length c0_0, .slice A0_1 l0_1.length c0_1] 48 (0, 0)) (zg_2 Za.out)) : gb825 ≠ gb809)); have n11_ := zm ((by rw [hg]; exact Nat.ne_of_lt (blk_lt (g := gb810) (o := .cells #[.slice none 0 0, .slice none 0 0] 48 (0, 0)) (zg_2 Zb.out)) : gb810 ≠ gb825)); have n12_ := zm ((by rw [hg]; exact Nat.ne_of_gt (blk_lt (g := gb810) (o := .cells #[.slice none 0 0, .slice none 0 0] 48 (0, 0)) (zg_2 Zb.out)) : gb825 ≠ gb810)); clear Ze; clear Zh; clear Zg; clear Za; clear Zb; clear HB; have Ze := n0_; have Zh := n1_; have Zg := n2_; have Za := n3_; have Zb := n4_; have HB := n5_; have Zd := n6_; have Zx := n7_; have Zm := n8_; have Zj := n9_; have Zo := n10_; have Zi := n11_; have Zp := n12_; clear n0_ n1_ n2_ n3_ n4_ n5_ n6_ n7_ n8_ n9_ n10_ n11_ n12_; clear hb hbox hg; obtain ⟨Ao53, co53, eo53⟩ := Kd.R_slice Zh.out; subst eo53; have hnb54 := Zo.out; have hnc54 := Zj.out; have hnb55 := Zp.out; have hnc55 := Zi.out; have hcz56_0 : w52.cell? ⟨gb825, 0, none⟩ = some (.slice none 0 0) := (blk_cell Zd.out 0).trans rfl; have hcz56_1 : w52.cell? ⟨gb825, 1, none⟩ = some (.slice none 0 0) := (blk_cell Zd.out 1).trans rfl; have hfz56_0 := blk_frozen Zd.out 0; have hfz56_1 := blk_frozen Zd.out 1; obtain ⟨Ao57, co57, eo57⟩ := Kd.R_slice Zg.out; subst eo57))
   have n0_ : Aside0 (Kd.R kAny 20 ((w52.setCell ⟨gb825, 0, none⟩ (.slice Ao53 t819.length co53)).setCell ⟨gb825, 1, none⟩ (.slice Ao57 t822.length co57)) w.heap.size (fun _ => True) (.slice Ao48 y815.length co48) y815) := ⟨by (with_reducible repeat (first | apply Kd.R_alloc | apply Kd.R_drewN | apply Kd.R_drew)); exact Kd.R_mono (Kd.R_far (p := ⟨gb825, 1, none⟩) (Kd.R_far (p := ⟨gb825, 0, none⟩) (Kd.R_types Ze.out Zd.out (by decide)) (fun _ hk => hk.2) (.slice Ao53 t819.length co53)) (fun _ hk => hk.2) (.slice Ao57 t822.length co57)) (fun _ hk => trivial)⟩
   have n1_ : Aside0 (Kd.R Kd.string 9 ((w52.setCell ⟨gb825, 0, none⟩ (.slice Ao53 t819.length co53)).setCell ⟨gb825, 1, none⟩ (.slice Ao57 t822.length co57)) w.heap.size (fun _ => True) (.slice Ao53 t819.length co53) t819) := ⟨by (with_reducible repeat (first | apply Kd.R_alloc | apply Kd.R_drewN | apply Kd.R_drew)); exact Kd.R_mono (Kd.R_far (p := ⟨gb825, 1, none⟩) (Kd.R_far (p := ⟨gb825, 0, none⟩) (Kd.R_types Zh.out Zd.out (by decide)) (fun _ hk => hk.2) (.slice Ao53 t819.length co53)) (fun _ hk => hk.2) (.slice Ao57 t822.length co57)) (fun _ hk => trivial)⟩
   have n2_ : Aside0 (Kd.R k92 92 ((w52.setCell ⟨gb825, 0, none⟩ (.slice Ao53 t819.length co53)).setCell ⟨gb825, 1, none⟩ (.slice Ao57 t822.length co57)) w.heap.size (fun _ => True) (.slice Ao57 t822.length co57) t822) := ⟨by (with_reducible repeat (first | apply Kd.R_alloc | apply Kd.R_drewN | apply Kd.R_drew)); exact Kd.R_mono (Kd.R_far (p := ⟨gb825, 1, none⟩) (Kd.R_far (p := ⟨gb825, 0, none⟩) (Kd.R_types Zg.out Zd.out (by decide)) (fun _ hk => hk.2) (.slice Ao53 t819.length co53)) (fun _ hk => hk.2) (.slice Ao57 t822.length co57)) (fun _ hk => trivial)⟩
   have n3_ : Aside0 (((w52.setCell ⟨gb825, 0, none⟩ (.slice Ao53 t819.length co53)).setCell ⟨gb825, 1, none⟩ (.slice Ao57 t822.length co57)).heap[gb809]? = some (.cells #[.slice A0_0 l0_0.length c0_0, .slice A0_1 l0_1.length c0_1] 48 (0, 0))) := ⟨by (with_reducible repeat (first | refine blk_drewN ?_ _ | refine blk_drew ?_ | refine blk_alloc ?_ _)); refine blk_far ?_ Zj.out _; (with_reducible repeat (first | refine blk_drewN ?_ _ | refine blk_drew ?_ | refine blk_alloc ?_ _)); refine blk_far ?_ Zj.out _; (with_reducible repeat (first | refine blk_drewN ?_ _ | refine blk_drew ?_ | refine blk_alloc ?_ _)); exact Za.out⟩
   have n4_ : Aside0 (((w52.setCell ⟨gb825, 0, none⟩ (.slice Ao53 t819.length co53)).setCell ⟨gb825, 1, none⟩ (.slice Ao57 t822.length co57)).heap[gb810]? = some (.cells #[.slice none 0 0, .slice none 0 0] 48 (0, 0))) := ⟨by (with_reducible repeat (first | refine blk_drewN ?_ _ | refine blk_drew ?_ | refine blk_alloc ?_ _)); refine blk_far ?_ Zi.out _; (with_reducible repeat (first | refine blk_drewN ?_ _ | refine blk_drew ?_ | refine blk_alloc ?_ _)); refine blk_far ?_ Zi.out _; (with_reducible repeat (first | refine blk_drewN ?_ _ | refine blk_drew ?_ | refine blk_alloc ?_ _)); exact Zb.out⟩
   have n5_ : Aside0 (((w52.setCell ⟨gb825, 0, none⟩ (.slice Ao53 t819.length co53)).setCell ⟨gb825, 1, none⟩ (.slice Ao57 t822.length co57)).heap[gb825]? = some (.cells #[.slice Ao53 t819.length co53, .slice Ao57 t822.length co57] 48 (0, 0))) := ⟨by (with_reducible repeat (first | refine blk_drewN ?_ _ | refine blk_drew ?_ | refine blk_alloc ?_ _)); refine blk_put (cs := #[.slice Ao53 t819.length co53, .slice none 0 0]) ?_ 1 _ rfl; (with_reducible repeat (first | refine blk_drewN ?_ _ | refine blk_drew ?_ | refine blk_alloc ?_ _)); refine blk_put (cs := #[.slice none 0 0, .slice none 0 0]) ?_ 0 _ rfl; (with_reducible repeat (first | refine blk_drewN ?_ _ | refine blk_drew ?_ | refine blk_alloc ?_ _)); exact Zd.out⟩
   have n6_ : Aside0 (Below w.heap.size w ((w52.setCell ⟨gb825, 0, none⟩ (.slice Ao53 t819.length co53)).setCell ⟨gb825, 1, none⟩ (.slice Ao57 t822.length co57))) := ⟨zg_5 HB.out Zc.out Zf.out Zm.out⟩
   (try clear Ze)
   (try clear Zh)
   (try clear Zg)
   (try clear Za)
   (try clear Zb)
   (try clear Zd)
   (try clear HB)
   generalize ((w52.setCell ⟨gb825, 0, none⟩ (.slice Ao53 t819.length co53)).setCell ⟨gb825, 1, none⟩ (.slice Ao57 t822.length co57)) = w58 at n0_ n1_ n2_ n3_ n4_ n5_ n6_ ⊢
   have Ze := n0_
   have Zh := n1_
   have Zg := n2_
   have Za := n3_
   have Zb := n4_
   have Zd := n5_
   have HB := n6_
   clear n0_ n1_ n2_ n3_ n4_ n5_ n6_
   have n0_ := zm (Kd.R_drew Ze.out)
   have n1_ := zm (Kd.R_drew Zh.out)
   have n2_ := zm (Kd.R_drew Zg.out)
   have n3_ := zm (blk_drew Za.out)
   have n4_ := zm (blk_drew Zb.out)
   have n5_ := zm (blk_drew Zd.out)
   have n6_ := zm (below_drew1 HB.out)
   clear Ze
   clear Zh
   clear Zg
   clear Za
   clear Zb
   clear Zd
   clear HB
   have Ze := n0_
   have Zh := n1_
   have Zg := n2_
   have Za := n3_
   have Zb := n4_
   have Zd := n5_
   have HB := n6_
   clear n0_ n1_ n2_ n3_ n4_ n5_ n6_
   refine start_ (n := 14) (S := fun w' => w'.cell? ⟨gb809, 0, none⟩ = some (.slice A0_0 l0_0.length c0_0) ∧ w'.cell? ⟨gb809, 1, none⟩ = some (.slice A0_1 l0_1.length c0_1)) (ds := []) #[false, false, false, false, false, false, false, false, false, false, false, false, false, false] (by kernel_rfl) rfl rfl ⟨(blk_cell Za.out 0).trans rfl, (blk_cell Za.out 1).trans rfl⟩ (fun hHeld => ?_); refine with_tabW impl_WriteSector.tab5 impl_WriteSector.bits5 (fun HT_ HW_ => ?_)
   generalize w58.drew = w59 at Ze Zh Zg Za Zb Zd HB hHeld ⊢
   refine pure_ (i := 0) (N := some 40) (v := ?_) (a' := ?_) #[true, false, false, false, false, false, false, false, false, false, false, false, false, false] rfl rfl (any_of HT_.out (by kernel_rfl)) (fun _ _ _ h => h) (Or.inl ⟨by rfl, ?_⟩) ?_ ?_
   rotate_left
   ·intro w'
    go_simp
    with_reducible rfl
   rotate_left
   ·simp only [Act.put, zs, zz, zt, i64_w, i32_w]
    rfl
   refine pure_ (i := 4) (N := some 44) (v := ?_) (a' := ?_) #[true, false, false, false, true, false, false, false, false, false, false, false, false, false] rfl rfl (any_of HT_.out (by kernel_rfl)) (fun _ _ _ h => h) (Or.inl ⟨by rfl, ?_⟩) ?_ ?_
   rotate_left
   ·intro w'
    go_simp
    with_reducible rfl
   rotate_left
   ·simp only [Act.put, zs, zz, zt, i64_w, i32_w]
    rfl
   refine pure_ (i := 5) (N := some 45) (v := ?_) (a' := ?_) #[true, false, false, false, true, true, false, false, false, false, false, false, false, false] rfl rfl (any_of HT_.out (by kernel_rfl)) (fun _ _ _ h => h) (Or.inl ⟨by rfl, ?_⟩) ?_ ?_
   rotate_left
   ·intro w'
    go_simp
    with_reducible rfl
   rotate_left
   ·simp only [Act.put, zs, zz, zt, i64_w, i32_w]
    rfl
   refine pure_ (i := 10) (N := some 50) (v := ?_) (a' := ?_) #[true, false, false, false, true, true, false, false, false, false, true, false, false, false] rfl rfl (any_of HT_.out (by kernel_rfl)) (fun _ _ _ h => h) (Or.inl ⟨by rfl, ?_⟩) ?_ ?_
   rotate_left
   ·intro w'
    go_simp
    with_reducible rfl
   rotate_left
   ·simp only [Act.put, zs, zz, zt, i64_w, i32_w]
    rfl
   refine take_ (i := 6) (N := some 46) (v := ?_) (a' := ?_) #[true, false, false, false, true, true, true, false, false, false, true, false, false, false] rfl rfl (take_ofW HT_.out HW_.out (by kernel_rfl)) (fun _ _ _ h => h) (Or.inl ⟨by rfl, ?_⟩) hHeld ?_ ?_
   rotate_left
   ·rintro w' ⟨s0, s1⟩
    go_simp
    with_reducible rfl
   rotate_left
   ·simp only [Act.put, zs, zz, zt, i64_w, i32_w]
    rfl
   refine pure_ (i := 7) (N := some 47) (v := ?_) (a' := ?_) #[true, false, false, false, true, true, true, true, false, false, true, false, false, false] rfl rfl (any_of HT_.out (by kernel_rfl)) (fun _ _ _ h => h) (Or.inl ⟨by rfl, ?_⟩) ?_ ?_
   rotate_left
   ·intro w'
    go_simp
    with_reducible rfl
   rotate_left
   ·simp only [Act.put, zs, zz, zt, i64_w, i32_w]
    rfl
   refine pure_ (i := 8) (N := some 48) (v := ?_) (a' := ?_) #[true, false, false, false, true, true, true, true, true, false, true, false, false, false] rfl rfl (any_of HT_.out (by kernel_rfl)) (fun _ _ _ h => h) (Or.inl ⟨by rfl, ?_⟩) ?_ ?_
   rotate_left
   ·intro w'
    go_simp
    with_reducible rfl
   rotate_left
   ·simp only [Act.put, zs, zz, zt, i64_w, i32_w]
    rfl
   refine pure_ (i := 9) (N := some 49) (v := ?_) (a' := ?_) #[true, false, false, false, true, true, true, true, true, true, true, false, false, false] rfl rfl (any_of HT_.out (by kernel_rfl)) (fun _ _ _ h => h) (Or.inl ⟨by rfl, ?_⟩) ?_ ?_
   rotate_left
   ·intro w'
    go_simp
    with_reducible rfl
   rotate_left
   ·simp only [Act.put, zs, zz, zt, i64_w, i32_w]
    rfl
   refine one_ (i := 1) (N := some 41) #[true, true, false, false, true, true, true, true, true, true, true, false, false, false] rfl rfl (one_of HT_.out (by kernel_rfl)) (by decide) (fun K hK => ?_)
   refine goes_ Try.func87 (by kernel_rfl) rfl #[.string a3] (by rfl) rfl rfl zq ?_
   with_reducible refine (impl_isSector.calls a3 t826 _ A12.out).mono ?_
   rintro e w' ⟨rfl, ⟨nd, rfl⟩⟩
   refine ⟨_, rfl, ?_⟩
   refine hK.out _ _ ⟨(blk_cell Za.out 0).trans rfl, (blk_cell Za.out 1).trans rfl⟩ (fun hHeld => ?_)
   clear hK K
   refine norm_ (a' := ?_) ?_ ?_
   rotate_left
   ·show Act.put _ (some 41) _ = _
    simp only [Act.put, zs, zz, zt, i64_w, i32_w]
    rfl
   refine pure_ (i := 2) (N := some 42) (v := ?_) (a' := ?_) #[true, true, true, false, true, true, true, true, true, true, true, false, false, false] rfl rfl (any_of HT_.out (by kernel_rfl)) (fun _ _ _ h => h) (Or.inl ⟨by rfl, ?_⟩) ?_ ?_
   rotate_left
   ·intro w'
    go_simp
    with_reducible rfl
   rotate_left
   ·simp only [Act.put, zs, zz, zt, i64_w, i32_w]
    rfl
   refine pure_ (i := 3) (N := some 43) (v := ?_) (a' := ?_) #[true, true, true, true, true, true, true, true, true, true, true, false, false, false] rfl rfl (any_of HT_.out (by kernel_rfl)) (fun _ _ _ h => h) (Or.inl ⟨by rfl, ?_⟩) ?_ ?_
   rotate_left
   ·intro w'
    go_simp
    with_reducible rfl
   rotate_left
   ·simp only [Act.put, zs, zz, zt, i64_w, i32_w]
    rfl
   refine one_ (i := 11) (N := some 51) #[true, true, true, true, true, true, true, true, true, true, true, true, false, false] rfl rfl (one_of HT_.out (by kernel_rfl)) (by decide) (fun K hK => ?_)
   refine Kd.R_lit_step kAny _ 20 ?hg (N := 51) ?hd (xs := ([Any.b (!t826), Any.n 4, Any.b ((l0_1.length : Int) == 200), Any.n 7] : List Any)) (inner := [.iface 4 (.bool (!t826)), .iface 3 (.int .i64 4), .iface 4 (.bool ((l0_1.length : Int) == 200)), .iface 3 (.int .i64 7)]) (ok := fun _ => True) (okp := fun _ => True) ?hr ?hp (fun _ hk => hk) trivial (Below.refl _ _) (Nat.le_refl _) (by simp) ?_; (case hd => rfl); (case hg => rfl); (case hr => first | (go_simp; done) | (go_simp; rfl)); (case hp => exact (Reps.one (show Kd.M kAny _ _ _ (Any.b (!t826)) [.iface 4 (.bool (!t826))] from rfl) (Reps.one (show Kd.M kAny _ _ _ (Any.n 4) [.iface 3 (.int .i64 4)] from rfl) (Reps.one (show Kd.M kAny _ _ _ (Any.b ((l0_1.length : Int) == 200)) [.iface 4 (.bool ((l0_1.length : Int) == 200))] from rfl) (Reps.one (show Kd.M kAny _ _ _ (Any.n 7) [.iface 3 (.int .i64 7)] from rfl) (Reps.none _ _))))))
   intro v828 w60 ho61 hb hg_ hnew_
   clear hg_ hnew_
   (first | rw [← Ny827.out] at ho61 | (simp only [Int.reduceToNat] at ho61; rw [← Ny827.out] at ho61))
   have n0_ := zm (Kd.R_elder' (zg_4 Ze.out) (Kd.R_base ho61) hb)
   have n1_ := zm (Kd.R_below (zg_4 Zh.out) hb)
   have n2_ := zm (Kd.R_below (zg_4 Zg.out) hb)
   have n3_ := zm (Kd.R_lower (Kd.R_new' ho61 (Kd.R_lt (zg_4 Ze.out))) (below_size (zg_5 HB.out Zc.out Zf.out Zm.out)))
   have n4_ := zm (blk_below (g := gb809) (o := .cells #[.slice A0_0 l0_0.length c0_0, .slice A0_1 l0_1.length c0_1] 48 (0, 0)) (zg_2 Za.out) hb)
   have n5_ := zm (blk_below (g := gb810) (o := .cells #[.slice none 0 0, .slice none 0 0] 48 (0, 0)) (zg_2 Zb.out) hb)
   have n6_ := zm (blk_below (g := gb825) (o := .cells #[.slice Ao53 t819.length co53, .slice Ao57 t822.length co57] 48 (0, 0)) (zg_2 Zd.out) hb)
   have n7_ := zm (below_step (zg_5 HB.out Zc.out Zf.out Zm.out) hb)
   clear Ze
   clear Zh
   clear Zg
   clear Za
   clear Zb
   clear Zd
   clear HB
   have Ze := n0_
   have Zh := n1_
   have Zg := n2_
   have Zn := n3_
   have Za := n4_
   have Zb := n5_
   have Zd := n6_
   have HB := n7_
   clear n0_ n1_ n2_ n3_ n4_ n5_ n6_ n7_
   clear hb ho61
   obtain ⟨Ao62, co62, eo62⟩ := Kd.R_slice Zn.out
   (first | subst eo62 | (injection eo62 with f1_ f2_ f3_; have f4_ := f1_.symm; have f5_ := f3_.symm; clear f1_ f2_ f3_; subst f4_; subst f5_))
   refine hK.out _ _ ⟨(blk_cell Za.out 0).trans rfl, (blk_cell Za.out 1).trans rfl⟩ (fun hHeld => ?_)
   clear hK K
   refine norm_ (a' := ?_) ?_ ?_
   rotate_left
   ·show Act.put _ (some 51) _ = _
    simp only [Act.put, zs, zz, zt, i64_w, i32_w]
    rfl
   refine one_ (i := 12) (N := some 52) #[true, true, true, true, true, true, true, true, true, true, true, true, true, false] rfl rfl (one_of HT_.out (by kernel_rfl)) (by decide) (fun K hK => ?_)
   refine goes_ Try.func54 (by kernel_rfl) rfl #[.slice Ao62 y827.length co62] (by rfl) rfl rfl zq ?_
   with_reducible refine (impl_first.calls _ _ y827 t830 _ ?side1 ?side2 A13.out).mono ?_
   (case side1 => repeat (first | exact (Kd.R_reads' Zn.out).2.2 | (with_reducible refine Kd.C_alloc ?_ _) | (with_reducible refine Kd.C_drewN ?_ _) | (with_reducible refine Kd.C_drew ?_)))
   (case side2 => exact (Kd.R_reads' Zn.out).2.1)
   rintro e w' ⟨rfl, ⟨nd, rfl⟩⟩
   refine ⟨_, rfl, ?_⟩
   refine hK.out _ _ ⟨(blk_cell Za.out 0).trans rfl, (blk_cell Za.out 1).trans rfl⟩ (fun hHeld => ?_)
   clear hK K
   refine norm_ (a' := ?_) ?_ ?_
   rotate_left
   ·show Act.put _ (some 52) _ = _
    simp only [Act.put, zs, zz, zt, i64_w, i32_w]
    rfl
   refine pure_ (i := 13) (N := some 12) (v := ?_) (a' := ?_) #[true, true, true, true, true, true, true, true, true, true, true, true, true, true] rfl rfl (any_of HT_.out (by kernel_rfl)) (fun _ _ _ h => h) (Or.inl ⟨by rfl, ?_⟩) ?_ ?_
   rotate_left
   ·intro w'
    go_simp
    with_reducible rfl
   rotate_left
   ·simp only [Act.put, zs, zz, zt, i64_w, i32_w]
    rfl
   refine done_ (done_of HT_.out (by kernel_rfl)) ?_
   have hcz63_0 : w60.cell? ⟨gb825, 0, none⟩ = some (.slice Ao53 t819.length co53) := (blk_cell Zd.out 0).trans rfl
   have hcz63_1 : w60.cell? ⟨gb825, 1, none⟩ = some (.slice Ao57 t822.length co57) := (blk_cell Zd.out 1).trans rfl
   have hfz63_0 := blk_frozen Zd.out 0
   have hfz63_1 := blk_frozen Zd.out 1
   have hcz64_0 : w60.cell? ⟨gb810, 0, none⟩ = some (.slice none 0 0) := (blk_cell Zb.out 0).trans rfl
   have hcz64_1 : w60.cell? ⟨gb810, 1, none⟩ = some (.slice none 0 0) := (blk_cell Zb.out 1).trans rfl
   have hfz64_0 := blk_frozen Zb.out 0
   have hfz64_1 := blk_frozen Zb.out 1
   try go_wp2
   refine bodyPost_ret (results_ct rfl _ _ gb810 48 #[.slice Ao53 t819.length co53, .slice Ao57 t822.length co57] (0, 0) _ rfl (by (with_reducible repeat (first | refine blk_drewN ?_ _ | refine blk_drew ?_ | refine blk_alloc ?_ _)); refine blk_put (cs := #[.slice Ao53 t819.length co53, .slice none 0 0]) ?_ 1 _ rfl; (with_reducible repeat (first | refine blk_drewN ?_ _ | refine blk_drew ?_ | refine blk_alloc ?_ _)); refine blk_put (cs := #[.slice none 0 0, .slice none 0 0]) ?_ 0 _ rfl; (with_reducible repeat (first | refine blk_drewN ?_ _ | refine blk_drew ?_ | refine blk_alloc ?_ _)); exact Zb.out) Try.underlying48 rfl (by kernel_rfl)) rfl ?_
   exact ⟨_, _, by first | rfl | (simp [errW_none, errW_some] <;> rfl) | (simp [*, errW_none, errW_some] <;> rfl), by (with_reducible repeat (first | apply Kd.R_alloc | apply Kd.R_drewN | apply Kd.R_drew)); exact Kd.R_mono (Kd.R_far (p := ⟨gb810, 1, none⟩) (Kd.R_far (p := ⟨gb810, 0, none⟩) (Kd.R_types Zh.out Zb.out (by decide)) (fun _ hk => hk.2) (.slice Ao53 t819.length co53)) (fun _ hk => hk.2) (.slice Ao57 t822.length co57)) (fun _ hk => trivial), by (with_reducible repeat (first | apply Kd.R_alloc | apply Kd.R_drewN | apply Kd.R_drew)); exact Kd.R_mono (Kd.R_far (p := ⟨gb810, 1, none⟩) (Kd.R_far (p := ⟨gb810, 0, none⟩) (Kd.R_types Zg.out Zb.out (by decide)) (fun _ hk => hk.2) (.slice Ao53 t819.length co53)) (fun _ hk => hk.2) (.slice Ao57 t822.length co57)) (fun _ hk => trivial), zg_5 HB.out Zc.out Zf.out Zm.out⟩
 ·rw [if_neg c10] at H
  have c10b0 : (t818 == 0) = false := beq_eq_false_iff_ne.mpr c10
  have c10b1 : (t818 != 0) = true := bne_iff_ne.mpr c10
  simp only [Option.some.injEq, Prod.mk.injEq] at H
  obtain ⟨rfl, rfl, rfl⟩ := H
  go_enter Try.func38, Try.ntmps38
  try go_wp2_with (first | ((with_reducible refine gate_dst (N := 4) rfl ?_); refine box_event ?hg (N := 4) ?hd (cs := #[.slice A0_0 l0_0.length c0_0, .slice A0_1 l0_1.length c0_1]) (t := 48) ?hr ?_; (case hd => rfl); (case hg => rfl); (case hr => first | (go_simp; done) | (go_simp; rfl)); intro gb809 hg w65 hbox hb; have n0_ := zm (below_step (zg_0 HB.out) hb); have n1_ := zm (hbox); have n2_ := zm ((by rw [hg]; exact (below_size (zg_0 HB.out)) : w.heap.size ≤ gb809)); have n3_ := zm ((by rw [hg]; exact (below_size (zg_0 HB.out)) : w.heap.size ≤ gb809)); clear HB; have HB := n0_; have Za := n1_; have Zu := n2_; have Zc := n3_; clear n0_ n1_ n2_ n3_; clear hb hbox hg) | ((with_reducible refine gate_dst (N := 8) rfl ?_); refine box_event ?hg (N := 8) ?hd (cs := #[.slice none 0 0, .slice none 0 0]) (t := 48) ?hr ?_; (case hd => rfl); (case hg => rfl); (case hr => first | (go_simp; done) | (go_simp; rfl)); intro gb810 hg w66 hbox hb; have n0_ := zm (blk_below (g := gb809) (o := .cells #[.slice A0_0 l0_0.length c0_0, .slice A0_1 l0_1.length c0_1] 48 (0, 0)) (zg_2 Za.out) hb); have n1_ := zm (below_step (zg_1 HB.out Zc.out) hb); have n2_ := zm (hbox); have n3_ := zm ((by rw [hg]; exact (below_size (zg_1 HB.out Zc.out)) : w.heap.size ≤ gb810)); have n4_ := zm ((by rw [hg]; exact (below_size (zg_1 HB.out Zc.out)) : w.heap.size ≤ gb810)); have n5_ := zm ((by rw [hg]; exact Nat.ne_of_lt (blk_lt (g := gb809) (o := .cells #[.slice A0_0 l0_0.length c0_0, .slice A0_1 l0_1.length c0_1] 48 (0, 0)) (zg_2 Za.out)) : gb809 ≠ gb810)); have n6_ := zm ((by rw [hg]; exact Nat.ne_of_gt (blk_lt (g := gb809) (o := .cells #[.slice A0_0 l0_0.length c0_0, .slice A0_1 l0_1.length c0_1] 48 (0, 0)) (zg_2 Za.out)) : gb810 ≠ gb809)); clear Za; clear HB; have Za := n0_; have HB := n1_; have Zb := n2_; have Zv := n3_; have Zf := n4_; have Zk := n5_; have Zl := n6_; clear n0_ n1_ n2_ n3_ n4_ n5_ n6_; clear hb hbox hg))
  have n0_ := zm (blk_drew Za.out)
  have n1_ := zm (blk_drew Zb.out)
  have n2_ := zm (below_drew1 HB.out)
  clear Za
  clear Zb
  clear HB
  have Za := n0_
  have Zb := n1_
  have HB := n2_
  clear n0_ n1_ n2_
  refine start_ (n := 22) (S := fun w' => w'.cell? ⟨gb809, 0, none⟩ = some (.slice A0_0 l0_0.length c0_0) ∧ w'.cell? ⟨gb809, 1, none⟩ = some (.slice A0_1 l0_1.length c0_1)) (ds := []) #[false, false, false, false, false, false, false, false, false, false, false, false, false, false, false, false, false, false, false, false, false, false] (by kernel_rfl) rfl rfl ⟨(blk_cell Za.out 0).trans rfl, (blk_cell Za.out 1).trans rfl⟩ (fun hHeld => ?_); refine with_tabW impl_WriteSector.tab1 impl_WriteSector.bits1 (fun HT_ HW_ => ?_)
  generalize w66.drew = w67 at Za Zb HB hHeld ⊢
  refine pure_ (i := 0) (N := some 13) (v := ?_) (a' := ?_) #[true, false, false, false, false, false, false, false, false, false, false, false, false, false, false, false, false, false, false, false, false, false] rfl rfl (any_of HT_.out (by kernel_rfl)) (fun _ _ _ h => h) (Or.inl ⟨by rfl, ?_⟩) ?_ ?_
  rotate_left
  ·intro w'
   go_simp
   with_reducible rfl
  rotate_left
  ·simp only [Act.put, zs, zz, zt, i64_w, i32_w]
   rfl
  refine pure_ (i := 3) (N := some 16) (v := ?_) (a' := ?_) #[true, false, false, true, false, false, false, false, false, false, false, false, false, false, false, false, false, false, false, false, false, false] rfl rfl (any_of HT_.out (by kernel_rfl)) (fun _ _ _ h => h) (Or.inl ⟨by rfl, ?_⟩) ?_ ?_
  rotate_left
  ·intro w'
   go_simp
   with_reducible rfl
  rotate_left
  ·simp only [Act.put, zs, zz, zt, i64_w, i32_w]
   rfl
  refine pure_ (i := 8) (N := some 21) (v := ?_) (a' := ?_) #[true, false, false, true, false, false, false, false, true, false, false, false, false, false, false, false, false, false, false, false, false, false] rfl rfl (any_of HT_.out (by kernel_rfl)) (fun _ _ _ h => h) (Or.inl ⟨by rfl, ?_⟩) ?_ ?_
  rotate_left
  ·intro w'
   go_simp
   with_reducible rfl
  rotate_left
  ·simp only [Act.put, zs, zz, zt, i64_w, i32_w]
   rfl
  refine pure_ (i := 9) (N := some 22) (v := ?_) (a' := ?_) #[true, false, false, true, false, false, false, false, true, true, false, false, false, false, false, false, false, false, false, false, false, false] rfl rfl (any_of HT_.out (by kernel_rfl)) (fun _ _ _ h => h) (Or.inl ⟨by rfl, ?_⟩) ?_ ?_
  rotate_left
  ·intro w'
   go_simp
   with_reducible rfl
  rotate_left
  ·simp only [Act.put, zs, zz, zt, i64_w, i32_w]
   rfl
  refine pure_ (i := 13) (N := some 26) (v := ?_) (a' := ?_) #[true, false, false, true, false, false, false, false, true, true, false, false, false, true, false, false, false, false, false, false, false, false] rfl rfl (any_of HT_.out (by kernel_rfl)) (fun _ _ _ h => h) (Or.inl ⟨by rfl, ?_⟩) ?_ ?_
  rotate_left
  ·intro w'
   go_simp
   with_reducible rfl
  rotate_left
  ·simp only [Act.put, zs, zz, zt, i64_w, i32_w]
   rfl
  refine pure_ (i := 14) (N := some 27) (v := ?_) (a' := ?_) #[true, false, false, true, false, false, false, false, true, true, false, false, false, true, true, false, false, false, false, false, false, false] rfl rfl (any_of HT_.out (by kernel_rfl)) (fun _ _ _ h => h) (Or.inl ⟨by rfl, ?_⟩) ?_ ?_
  rotate_left
  ·intro w'
   go_simp
   with_reducible rfl
  rotate_left
  ·simp only [Act.put, zs, zz, zt, i64_w, i32_w]
   rfl
  refine pure_ (i := 18) (N := some 31) (v := ?_) (a' := ?_) #[true, false, false, true, false, false, false, false, true, true, false, false, false, true, true, false, false, false, true, false, false, false] rfl rfl (any_of HT_.out (by kernel_rfl)) (fun _ _ _ h => h) (Or.inl ⟨by rfl, ?_⟩) ?_ ?_
  rotate_left
  ·intro w'
   go_simp
   with_reducible rfl
  rotate_left
  ·simp only [Act.put, zs, zz, zt, i64_w, i32_w]
   rfl
  refine take_ (i := 4) (N := some 17) (v := ?_) (a' := ?_) #[true, false, false, true, true, false, false, false, true, true, false, false, false, true, true, false, false, false, true, false, false, false] rfl rfl (take_ofW HT_.out HW_.out (by kernel_rfl)) (fun _ _ _ h => h) (Or.inl ⟨by rfl, ?_⟩) hHeld ?_ ?_
  rotate_left
  ·rintro w' ⟨s0, s1⟩
   go_simp
   with_reducible rfl
  rotate_left
  ·simp only [Act.put, zs, zz, zt, i64_w, i32_w]
   rfl
  refine one_ (i := 1) (N := some 14) #[true, true, false, true, true, false, false, false, true, true, false, false, false, true, true, false, false, false, true, false, false, false] rfl rfl (one_of HT_.out (by kernel_rfl)) (by decide) (fun K hK => ?_)
  refine goes_ Try.func55 (by kernel_rfl) rfl #[.string a3] (by rfl) rfl rfl zq ?_
  with_reducible refine (impl_isLongText.calls a3 t811 _ A5.out).mono ?_
  rintro e w' ⟨rfl, ⟨nd, rfl⟩⟩
  refine ⟨_, rfl, ?_⟩
  refine hK.out _ _ ⟨(blk_cell Za.out 0).trans rfl, (blk_cell Za.out 1).trans rfl⟩ (fun hHeld => ?_)
  clear hK K
  refine norm_ (a' := ?_) ?_ ?_
  rotate_left
  ·show Act.put _ (some 14) _ = _
   simp only [Act.put, zs, zz, zt, i64_w, i32_w]
   rfl
  refine pure_ (i := 2) (N := some 15) (v := ?_) (a' := ?_) #[true, true, true, true, true, false, false, false, true, true, false, false, false, true, true, false, false, false, true, false, false, false] rfl rfl (any_of HT_.out (by kernel_rfl)) (fun _ _ _ h => h) (Or.inl ⟨by rfl, ?_⟩) ?_ ?_
  rotate_left
  ·intro w'
   go_simp
   with_reducible rfl
  rotate_left
  ·simp only [Act.put, zs, zz, zt, i64_w, i32_w]
   rfl
  refine one_ (i := 5) (N := some 18) #[true, true, true, true, true, true, false, false, true, true, false, false, false, true, true, false, false, false, true, false, false, false] rfl rfl (one_of HT_.out (by kernel_rfl)) (by decide) (fun K hK => ?_)
  refine goes_ Try.func42 (by kernel_rfl) rfl #[.agg #[.slice A0_0 l0_0.length c0_0, .slice A0_1 l0_1.length c0_1]] (by rfl) rfl rfl zq ?_
  with_reducible refine (impl_DiskOK.calls _ _ l0_0 _ _ l0_1 t812 _ ?side1 ?side2 ?side3 ?side4 A6.out).mono ?_
  (case side1 => repeat (first | exact (Kd.C_below Zq.out (zg_3 HB.out Zc.out Zf.out)) | (with_reducible refine Kd.C_alloc ?_ _) | (with_reducible refine Kd.C_drewN ?_ _) | (with_reducible refine Kd.C_drew ?_)))
  (case side2 => exact Zr.out)
  (case side3 => repeat (first | exact (Kd.C_below Zs.out (zg_3 HB.out Zc.out Zf.out)) | (with_reducible refine Kd.C_alloc ?_ _) | (with_reducible refine Kd.C_drewN ?_ _) | (with_reducible refine Kd.C_drew ?_)))
  (case side4 => exact Zt.out)
  rintro e w68 ⟨rfl, hb⟩
  refine ⟨_, rfl, ?_⟩
  have n0_ := zm (blk_below (g := gb809) (o := .cells #[.slice A0_0 l0_0.length c0_0, .slice A0_1 l0_1.length c0_1] 48 (0, 0)) (zg_2 Za.out) hb)
  have n1_ := zm (blk_below (g := gb810) (o := .cells #[.slice none 0 0, .slice none 0 0] 48 (0, 0)) (zg_2 Zb.out) hb)
  have n2_ := zm (below_step (zg_3 HB.out Zc.out Zf.out) hb)
  clear Za
  clear Zb
  clear HB
  have Za := n0_
  have Zb := n1_
  have HB := n2_
  clear n0_ n1_ n2_
  (try clear hb)
  (try clear hb2)
  (try clear hk)
  (try clear hi)
  refine hK.out _ _ ⟨(blk_cell Za.out 0).trans rfl, (blk_cell Za.out 1).trans rfl⟩ (fun hHeld => ?_)
  clear hK K
  refine norm_ (a' := ?_) ?_ ?_
  rotate_left
  ·show Act.put _ (some 18) _ = _
   simp only [Act.put, zs, zz, zt, i64_w, i32_w]
   rfl
  refine pure_ (i := 6) (N := some 19) (v := ?_) (a' := ?_) #[true, true, true, true, true, true, true, false, true, true, false, false, false, true, true, false, false, false, true, false, false, false] rfl rfl (any_of HT_.out (by kernel_rfl)) (fun _ _ _ h => h) (Or.inl ⟨by rfl, ?_⟩) ?_ ?_
  rotate_left
  ·intro w'
   go_simp
   with_reducible rfl
  rotate_left
  ·simp only [Act.put, zs, zz, zt, i64_w, i32_w]
   rfl
  refine pure_ (i := 7) (N := some 20) (v := ?_) (a' := ?_) #[true, true, true, true, true, true, true, true, true, true, false, false, false, true, true, false, false, false, true, false, false, false] rfl rfl (any_of HT_.out (by kernel_rfl)) (fun _ _ _ h => h) (Or.inl ⟨by rfl, ?_⟩) ?_ ?_
  rotate_left
  ·intro w'
   go_simp
   with_reducible rfl
  rotate_left
  ·simp only [Act.put, zs, zz, zt, i64_w, i32_w]
   rfl
  refine one_ (i := 10) (N := some 23) #[true, true, true, true, true, true, true, true, true, true, true, false, false, true, true, false, false, false, true, false, false, false] rfl rfl (one_of HT_.out (by kernel_rfl)) (by decide) (fun K hK => ?_)
  refine goes_ Try.func56 (by kernel_rfl) rfl #[.int .i64 a1] (by rfl) rfl rfl zq ?_
  with_reducible refine (impl_isHost.calls a1 t813 _ A7.out).mono ?_
  rintro e w' ⟨rfl, ⟨nd, rfl⟩⟩
  refine ⟨_, rfl, ?_⟩
  refine hK.out _ _ ⟨(blk_cell Za.out 0).trans rfl, (blk_cell Za.out 1).trans rfl⟩ (fun hHeld => ?_)
  clear hK K
  refine norm_ (a' := ?_) ?_ ?_
  rotate_left
  ·show Act.put _ (some 23) _ = _
   simp only [Act.put, zs, zz, zt, i64_w, i32_w]
   rfl
  refine pure_ (i := 11) (N := some 24) (v := ?_) (a' := ?_) #[true, true, true, true, true, true, true, true, true, true, true, true, false, true, true, false, false, false, true, false, false, false] rfl rfl (any_of HT_.out (by kernel_rfl)) (fun _ _ _ h => h) (Or.inl ⟨by rfl, ?_⟩) ?_ ?_
  rotate_left
  ·intro w'
   go_simp
   with_reducible rfl
  rotate_left
  ·simp only [Act.put, zs, zz, zt, i64_w, i32_w]
   rfl
  refine pure_ (i := 12) (N := some 25) (v := ?_) (a' := ?_) #[true, true, true, true, true, true, true, true, true, true, true, true, true, true, true, false, false, false, true, false, false, false] rfl rfl (any_of HT_.out (by kernel_rfl)) (fun _ _ _ h => h) (Or.inl ⟨by rfl, ?_⟩) ?_ ?_
  rotate_left
  ·intro w'
   go_simp
   with_reducible rfl
  rotate_left
  ·simp only [Act.put, zs, zz, zt, i64_w, i32_w]
   rfl
  refine one_ (i := 15) (N := some 28) #[true, true, true, true, true, true, true, true, true, true, true, true, true, true, true, true, false, false, true, false, false, false] rfl rfl (one_of HT_.out (by kernel_rfl)) (by decide) (fun K hK => ?_)
  refine goes_ Try.func86 (by kernel_rfl) rfl #[.int .i64 a2] (by rfl) rfl rfl zq ?_
  with_reducible refine (impl_isPlace.calls a2 t814 _ A8.out).mono ?_
  rintro e w' ⟨rfl, ⟨nd, rfl⟩⟩
  refine ⟨_, rfl, ?_⟩
  refine hK.out _ _ ⟨(blk_cell Za.out 0).trans rfl, (blk_cell Za.out 1).trans rfl⟩ (fun hHeld => ?_)
  clear hK K
  refine norm_ (a' := ?_) ?_ ?_
  rotate_left
  ·show Act.put _ (some 28) _ = _
   simp only [Act.put, zs, zz, zt, i64_w, i32_w]
   rfl
  refine pure_ (i := 16) (N := some 29) (v := ?_) (a' := ?_) #[true, true, true, true, true, true, true, true, true, true, true, true, true, true, true, true, true, false, true, false, false, false] rfl rfl (any_of HT_.out (by kernel_rfl)) (fun _ _ _ h => h) (Or.inl ⟨by rfl, ?_⟩) ?_ ?_
  rotate_left
  ·intro w'
   go_simp
   with_reducible rfl
  rotate_left
  ·simp only [Act.put, zs, zz, zt, i64_w, i32_w]
   rfl
  refine pure_ (i := 17) (N := some 30) (v := ?_) (a' := ?_) #[true, true, true, true, true, true, true, true, true, true, true, true, true, true, true, true, true, true, true, false, false, false] rfl rfl (any_of HT_.out (by kernel_rfl)) (fun _ _ _ h => h) (Or.inl ⟨by rfl, ?_⟩) ?_ ?_
  rotate_left
  ·intro w'
   go_simp
   with_reducible rfl
  rotate_left
  ·simp only [Act.put, zs, zz, zt, i64_w, i32_w]
   rfl
  refine one_ (i := 19) (N := some 32) #[true, true, true, true, true, true, true, true, true, true, true, true, true, true, true, true, true, true, true, true, false, false] rfl rfl (one_of HT_.out (by kernel_rfl)) (by decide) (fun K hK => ?_)
  refine Kd.R_lit_step kAny _ 20 ?hg (N := 32) ?hd (xs := ([Any.b t811, Any.n 2, Any.b (!t812), Any.n 1, Any.b (!t813), Any.n 4, Any.b (!t814), Any.n 14] : List Any)) (inner := [.iface 4 (.bool t811), .iface 3 (.int .i64 2), .iface 4 (.bool (!t812)), .iface 3 (.int .i64 1), .iface 4 (.bool (!t813)), .iface 3 (.int .i64 4), .iface 4 (.bool (!t814)), .iface 3 (.int .i64 14)]) (ok := fun _ => True) (okp := fun _ => True) ?hr ?hp (fun _ hk => hk) trivial (Below.refl _ _) (Nat.le_refl _) (by simp) ?_; (case hd => rfl); (case hg => rfl); (case hr => first | (go_simp; done) | (go_simp; rfl)); (case hp => exact (Reps.one (show Kd.M kAny _ _ _ (Any.b t811) [.iface 4 (.bool t811)] from rfl) (Reps.one (show Kd.M kAny _ _ _ (Any.n 2) [.iface 3 (.int .i64 2)] from rfl) (Reps.one (show Kd.M kAny _ _ _ (Any.b (!t812)) [.iface 4 (.bool (!t812))] from rfl) (Reps.one (show Kd.M kAny _ _ _ (Any.n 1) [.iface 3 (.int .i64 1)] from rfl) (Reps.one (show Kd.M kAny _ _ _ (Any.b (!t813)) [.iface 4 (.bool (!t813))] from rfl) (Reps.one (show Kd.M kAny _ _ _ (Any.n 4) [.iface 3 (.int .i64 4)] from rfl) (Reps.one (show Kd.M kAny _ _ _ (Any.b (!t814)) [.iface 4 (.bool (!t814))] from rfl) (Reps.one (show Kd.M kAny _ _ _ (Any.n 14) [.iface 3 (.int .i64 14)] from rfl) (Reps.none _ _))))))))))
  intro v816 w69 ho70 hb hg_ hnew_
  clear hg_ hnew_
  (first | rw [← Ny815.out] at ho70 | (simp only [Int.reduceToNat] at ho70; rw [← Ny815.out] at ho70))
  have n0_ := zm (Kd.R_lower ho70 (below_size (zg_3 HB.out Zc.out Zf.out)))
  have n1_ := zm (blk_below (g := gb809) (o := .cells #[.slice A0_0 l0_0.length c0_0, .slice A0_1 l0_1.length c0_1] 48 (0, 0)) (zg_2 Za.out) hb)
  have n2_ := zm (blk_below (g := gb810) (o := .cells #[.slice none 0 0, .slice none 0 0] 48 (0, 0)) (zg_2 Zb.out) hb)
  have n3_ := zm (below_step (zg_3 HB.out Zc.out Zf.out) hb)
  clear Za
  clear Zb
  clear HB
  have Ze := n0_
  have Za := n1_
  have Zb := n2_
  have HB := n3_
  clear n0_ n1_ n2_ n3_
  clear hb ho70
  obtain ⟨Ao71, co71, eo71⟩ := Kd.R_slice Ze.out
  (first | subst eo71 | (injection eo71 with f1_ f2_ f3_; have f4_ := f1_.symm; have f5_ := f3_.symm; clear f1_ f2_ f3_; subst f4_; subst f5_))
  refine hK.out _ _ ⟨(blk_cell Za.out 0).trans rfl, (blk_cell Za.out 1).trans rfl⟩ (fun hHeld => ?_)
  clear hK K
  refine norm_ (a' := ?_) ?_ ?_
  rotate_left
  ·show Act.put _ (some 32) _ = _
   simp only [Act.put, zs, zz, zt, i64_w, i32_w]
   rfl
  refine one_ (i := 20) (N := some 33) #[true, true, true, true, true, true, true, true, true, true, true, true, true, true, true, true, true, true, true, true, true, false] rfl rfl (one_of HT_.out (by kernel_rfl)) (by decide) (fun K hK => ?_)
  refine goes_ Try.func54 (by kernel_rfl) rfl #[.slice Ao71 y815.length co71] (by rfl) rfl rfl zq ?_
  with_reducible refine (impl_first.calls _ _ y815 t818 _ ?side1 ?side2 A9.out).mono ?_
  (case side1 => repeat (first | exact (Kd.R_reads' Ze.out).2.2 | (with_reducible refine Kd.C_alloc ?_ _) | (with_reducible refine Kd.C_drewN ?_ _) | (with_reducible refine Kd.C_drew ?_)))
  (case side2 => exact (Kd.R_reads' Ze.out).2.1)
  rintro e w' ⟨rfl, ⟨nd, rfl⟩⟩
  refine ⟨_, rfl, ?_⟩
  refine hK.out _ _ ⟨(blk_cell Za.out 0).trans rfl, (blk_cell Za.out 1).trans rfl⟩ (fun hHeld => ?_)
  clear hK K
  refine norm_ (a' := ?_) ?_ ?_
  rotate_left
  ·show Act.put _ (some 33) _ = _
   simp only [Act.put, zs, zz, zt, i64_w, i32_w]
   rfl
  refine pure_ (i := 21) (N := some 10) (v := ?_) (a' := ?_) #[true, true, true, true, true, true, true, true, true, true, true, true, true, true, true, true, true, true, true, true, true, true] rfl rfl (any_of HT_.out (by kernel_rfl)) (fun _ _ _ h => h) (Or.inl ⟨by rfl, ?_⟩) ?_ ?_
  rotate_left
  ·intro w'
   go_simp
   with_reducible rfl
  rotate_left
  ·simp only [Act.put, zs, zz, zt, i64_w, i32_w]
   rfl
  refine done_ (done_of HT_.out (by kernel_rfl)) ?_
  have hnb72 := Zl.out
  have hnc72 := Zk.out
  have hcz73_0 : w69.cell? ⟨gb810, 0, none⟩ = some (.slice none 0 0) := (blk_cell Zb.out 0).trans rfl
  have hcz73_1 : w69.cell? ⟨gb810, 1, none⟩ = some (.slice none 0 0) := (blk_cell Zb.out 1).trans rfl
  have hfz73_0 := blk_frozen Zb.out 0
  have hfz73_1 := blk_frozen Zb.out 1
  try go_wp2
  refine bodyPost_ret (results_ct rfl _ _ gb810 48 #[.slice none 0 0, .slice none 0 0] (0, 0) _ rfl (by (with_reducible repeat (first | refine blk_drewN ?_ _ | refine blk_drew ?_ | refine blk_alloc ?_ _)); refine blk_put (cs := #[.slice none 0 0, .slice none 0 0]) ?_ 1 _ rfl; (with_reducible repeat (first | refine blk_drewN ?_ _ | refine blk_drew ?_ | refine blk_alloc ?_ _)); refine blk_put (cs := #[.slice none 0 0, .slice none 0 0]) ?_ 0 _ rfl; (with_reducible repeat (first | refine blk_drewN ?_ _ | refine blk_drew ?_ | refine blk_alloc ?_ _)); exact Zb.out) Try.underlying48 rfl (by kernel_rfl)) rfl ?_
  exact ⟨_, _, by first | rfl | (simp [errW_none, errW_some] <;> rfl) | (simp [*, errW_none, errW_some] <;> rfl), by first | exact Kd.R_nil _ _ _ _ _ | exact Kd.N_nil _ _ _ _ _ | exact Kd.V_nil _ _ _ _ _ | exact Kd.Q_nil _ _ _ _ _ | exact Kd.S_nil _ _ _ _ _, by first | exact Kd.R_nil _ _ _ _ _ | exact Kd.N_nil _ _ _ _ _ | exact Kd.V_nil _ _ _ _ _ | exact Kd.Q_nil _ _ _ _ _ | exact Kd.S_nil _ _ _ _ _, zg_3 HB.out Zc.out Zf.out⟩
section
attribute [local go_sem high] eqA28
/-! ### laws_at: function 13 -/
def laws_at.f (l0 : List Int) (a1 : Int) (a2 : Int) : Option (Int) := if a2 ≤ 1 then (some 0) else (if (l0.length : Int) = 0 then (if a2 = 0 then (none) else (some (Int.tmod (wrap64 (a1 * 7)) a2))) else (if 0 ≤ (Int.tmod a1 (l0.length : Int)) then (if (Int.tmod a1 (l0.length : Int)) < (l0.length : Int) then (if 0 ≤ (Int.tmod (wrap64 (a1 + 1)) (l0.length : Int)) then (if (Int.tmod (wrap64 (a1 + 1)) (l0.length : Int)) < (l0.length : Int) then (if a2 = 0 then (none) else (some (Int.tmod (wrap64 ((wrap64 ((wrap64 ((wrap64 (rd l0 (Int.tmod a1 (l0.length : Int)))) * 31)) + (wrap64 (rd l0 (Int.tmod (wrap64 (a1 + 1)) (l0.length : Int)))))) + (wrap64 (Int.tdiv a1 (l0.length : Int))))) a2))) else (none)) else (none)) else (none)) else (none)))
set_option maxHeartbeats 8000000 in
set_option maxRecDepth 100000 in
theorem laws_at.calls (A0 : Option Addr) (c0 : Nat) (l0 : List Int) (a1 : Int) (a2 : Int) (r : Int) (w : World) (hr0 : Kd.C (Kd.int .u8) w A0 l0.length l0) (hc0 : l0.length ≤ c0) (h : laws_at.f l0 a1 a2 = some r) :
    Calls Try.prog 13 #[.slice A0 l0.length c0, .int .i64 a1, .int .i64 a2] w fun e w' => e = .returned (.int .i64 r) ∧ Drawn0 w w' := by
 have HR0 := zm hr0
 have HC0 := zm hc0
 clear hr0 hc0
 have H : (if a2 ≤ 1 then (some 0) else (if (l0.length : Int) = 0 then (if a2 = 0 then (none) else (some (Int.tmod (wrap64 (a1 * 7)) a2))) else (if 0 ≤ (Int.tmod a1 (l0.length : Int)) then (if (Int.tmod a1 (l0.length : Int)) < (l0.length : Int) then (if 0 ≤ (Int.tmod (wrap64 (a1 + 1)) (l0.length : Int)) then (if (Int.tmod (wrap64 (a1 + 1)) (l0.length : Int)) < (l0.length : Int) then (if a2 = 0 then (none) else (some (Int.tmod (wrap64 ((wrap64 ((wrap64 ((wrap64 (rd l0 (Int.tmod a1 (l0.length : Int)))) * 31)) + (wrap64 (rd l0 (Int.tmod (wrap64 (a1 + 1)) (l0.length : Int)))))) + (wrap64 (Int.tdiv a1 (l0.length : Int))))) a2))) else (none)) else (none)) else (none)) else (none)))) = some r := h
 clear h
 by_cases c4 : a2 ≤ 1
 ·rw [if_pos c4] at H
  have c4b0 : decide (a2 ≤ 1) = true := decide_eq_true c4
  clear c4
  obtain rfl := Option.some.inj H
  go_enter Try.func13, Try.ntmps13
  go_wp2
  repeat (go_quiet (fail); try go_wp2)
  go_ret
  exact ⟨zr, by repeat (first | exact Drawn0.refl _ | apply Drawn0.step)⟩
 ·rw [if_neg c4] at H
  have c4b0 : decide (a2 ≤ 1) = false := decide_eq_false c4
  clear c4
  by_cases c5 : (l0.length : Int) = 0
  ·rw [if_pos c5] at H
   have c5b0 : ((l0.length : Int) == 0) = true := beq_iff_eq.mpr c5
   have c5b1 : ((l0.length : Int) != 0) = false := bne_eq_false_iff_eq.mpr c5
   clear c5
   by_cases c6 : a2 = 0
   ·rw [if_pos c6] at H
    exact absurd H (by simp)
   ·rw [if_neg c6] at H
    have c6b0 : (a2 == 0) = false := beq_eq_false_iff_ne.mpr c6
    have c6b1 : (a2 != 0) = true := bne_iff_ne.mpr c6
    obtain rfl := Option.some.inj H
    go_enter Try.func13, Try.ntmps13
    go_wp2
    repeat (go_quiet (fail); try go_wp2)
    go_ret
    exact ⟨zr, by repeat (first | exact Drawn0.refl _ | apply Drawn0.step)⟩
  ·rw [if_neg c5] at H
   have c5b0 : ((l0.length : Int) == 0) = false := beq_eq_false_iff_ne.mpr c5
   have c5b1 : ((l0.length : Int) != 0) = true := bne_iff_ne.mpr c5
   have c5b2 : ¬ (l0 = []) := fun h_ => c5 (by rw [h_]; rfl)
   obtain ⟨ji7, hji7⟩ : ∃ j_ : Int, (Int.tmod a1 (l0.length : Int)) = j_ := ⟨_, rfl⟩
   replace H : (if 0 ≤ (ji7) then (if (ji7) < (l0.length : Int) then (if 0 ≤ (Int.tmod (wrap64 (a1 + 1)) (l0.length : Int)) then (if (Int.tmod (wrap64 (a1 + 1)) (l0.length : Int)) < (l0.length : Int) then (if a2 = 0 then (none) else (some (Int.tmod (wrap64 ((wrap64 ((wrap64 ((wrap64 (rd l0 (ji7))) * 31)) + (wrap64 (rd l0 (Int.tmod (wrap64 (a1 + 1)) (l0.length : Int)))))) + (wrap64 (Int.tdiv a1 (l0.length : Int))))) a2))) else (none)) else (none)) else (none)) else (none)) = some r := by first | (rw [hji7] at H; exact H) | (simp only [hji7] at H ⊢; exact H)
   by_cases c8 : 0 ≤ (ji7)
   ·rw [if_pos c8] at H
    have c8b0 : decide (0 ≤ (ji7)) = true := decide_eq_true c8
    clear c8
    by_cases c9 : (ji7) < (l0.length : Int)
    ·rw [if_pos c9] at H
     have c9b0 : decide ((ji7) < (l0.length : Int)) = true := decide_eq_true c9
     clear c9
     obtain ⟨ji10, hji10⟩ : ∃ j_ : Int, (Int.tmod (wrap64 (a1 + 1)) (l0.length : Int)) = j_ := ⟨_, rfl⟩
     replace H : (if 0 ≤ (ji10) then (if (ji10) < (l0.length : Int) then (if a2 = 0 then (none) else (some (Int.tmod (wrap64 ((wrap64 ((wrap64 ((wrap64 (rd l0 (ji7))) * 31)) + (wrap64 (rd l0 (ji10))))) + (wrap64 (Int.tdiv a1 (l0.length : Int))))) a2))) else (none)) else (none)) = some r := by first | (rw [hji10] at H; exact H) | (simp only [hji10] at H ⊢; exact H)
     by_cases c11 : 0 ≤ (ji10)
     ·rw [if_pos c11] at H
      have c11b0 : decide (0 ≤ (ji10)) = true := decide_eq_true c11
      clear c11
      by_cases c12 : (ji10) < (l0.length : Int)
      ·rw [if_pos c12] at H
       have c12b0 : decide ((ji10) < (l0.length : Int)) = true := decide_eq_true c12
       clear c12
       by_cases c13 : a2 = 0
       ·rw [if_pos c13] at H
        exact absurd H (by simp)
       ·rw [if_neg c13] at H
        have c13b0 : (a2 == 0) = false := beq_eq_false_iff_ne.mpr c13
        have c13b1 : (a2 != 0) = true := bne_iff_ne.mpr c13
        obtain rfl := Option.some.inj H
        have p256 : 0 ≤ ((ji7) : Int) := of_decide_eq_true (by first | (with_reducible assumption) | assumption)
        have q256 : (ji7) < (l0.length : Int) := of_decide_eq_true (by first | (with_reducible assumption) | assumption)
        obtain ⟨ad256, e256, hx256_0⟩ := Kd.at_int HR0.out (ji7) p256 q256
        cases e256
        replace p256 := eq_true p256
        replace q256 := eq_true q256
        have p257 : 0 ≤ ((ji10) : Int) := of_decide_eq_true (by first | (with_reducible assumption) | assumption)
        have q257 : (ji10) < (l0.length : Int) := of_decide_eq_true (by first | (with_reducible assumption) | assumption)
        obtain ⟨ad257, e257, hx257_0⟩ := Kd.at_int HR0.out (ji10) p257 q257
        obtain rfl : ad256 = ad257 := (by injection e257)
        replace p257 := eq_true p257
        replace q257 := eq_true q257
        go_enter Try.func13, Try.ntmps13
        go_wp2
        repeat (go_quiet (fail); try go_wp2)
        go_ret
        exact ⟨by first | rfl | (simp; done) | (simp only [← hji7, ← hji10] <;> (first | rfl | simp)) | (simp [*]; done), by repeat (first | exact Drawn0.refl _ | apply Drawn0.step)⟩
      ·rw [if_neg c12] at H
       exact absurd H (by simp)
     ·rw [if_neg c11] at H
      exact absurd H (by simp)
    ·rw [if_neg c9] at H
     exact absurd H (by simp)
   ·rw [if_neg c8] at H
    exact absurd H (by simp)
end
section
attribute [local go_sem high] eqA92
/-! ### laws_sameTexts: function 46 -/
def laws_sameTexts.l0 : Nat → List ByteArray → List ByteArray → Int → Option (Bool)
  | 0, _, _, _ => none
  | k + 1, x0, x1, x5 => if x5 < (x0.length : Int) then (if 0 ≤ x5 then (if x5 < (x1.length : Int) then (if (rdOf ByteArray.empty x0 x5).toList = (rdOf ByteArray.empty x1 x5).toList then (laws_sameTexts.l0 k x0 x1 (wrap64 (x5 + 1))) else (some false)) else (none)) else (none)) else (some true)
def laws_sameTexts.f (k : Nat) (l0 : List ByteArray) (l1 : List ByteArray) : Option (Bool) := if (l0.length : Int) = (l1.length : Int) then (laws_sameTexts.l0 k l0 l1 0) else (some false)
theorem laws_sameTexts.mono_l : ∀ k, (∀ y0 y1 y2, LeO (laws_sameTexts.l0 k y0 y1 y2) (laws_sameTexts.l0 (k + 1) y0 y1 y2))
  | 0 => fun _ _ _ r h => by simp [laws_sameTexts.l0] at h
  | k + 1 => by
    have ih0 := laws_sameTexts.mono_l k
    · intro y0 y1 y2
      unfold laws_sameTexts.l0
      repeat' first
      | (with_reducible exact ih0 _ _ _)
      | (with_reducible exact LeO.refl _)
      | (with_reducible exact LeO.none _)
      | (with_reducible refine LeO.ite ?_ ?_)
      | (with_reducible refine LeO.bind ?_ (fun _ => ?_))
      | exact ih0 _ _ _
      | exact LeO.none _
      | refine LeO.ite ?_ ?_
      | refine LeO.bind ?_ (fun _ => ?_)
theorem laws_sameTexts.mono : ∀ a0 a1 k, LeO (laws_sameTexts.f k a0 a1) (laws_sameTexts.f (k + 1) a0 a1) := by
  intro a0 a1 k
  have ih0 := laws_sameTexts.mono_l k
  unfold laws_sameTexts.f
  repeat' first
      | (with_reducible exact ih0 _ _ _)
      | (with_reducible exact LeO.refl _)
      | (with_reducible exact LeO.none _)
      | (with_reducible refine LeO.ite ?_ ?_)
      | (with_reducible refine LeO.bind ?_ (fun _ => ?_))
      | exact ih0 _ _ _
      | exact LeO.none _
      | refine LeO.ite ?_ ?_
      | refine LeO.bind ?_ (fun _ => ?_)
set_option maxHeartbeats 8000000 in
set_option maxRecDepth 100000 in
theorem laws_sameTexts.calls (k : Nat) (A0 : Option Addr) (c0 : Nat) (l0 : List ByteArray) (A1 : Option Addr) (c1 : Nat) (l1 : List ByteArray) (r : Bool) (w : World) (hr0 : Kd.C Kd.string w A0 l0.length l0) (hc0 : l0.length ≤ c0) (hr1 : Kd.C Kd.string w A1 l1.length l1) (hc1 : l1.length ≤ c1) (h : laws_sameTexts.f k l0 l1 = some r) :
    Calls Try.prog 46 #[.slice A0 l0.length c0, .slice A1 l1.length c1] w fun e w' => e = .returned (.bool r) ∧ Drawn0 w w' := by
 have HR0 := zm hr0
 have HC0 := zm hc0
 clear hr0 hc0
 have HR1 := zm hr1
 have HC1 := zm hc1
 clear hr1 hc1
 have H : (if (l0.length : Int) = (l1.length : Int) then (laws_sameTexts.l0 k l0 l1 0) else (some false)) = some r := h
 clear h
 by_cases c3 : (l0.length : Int) = (l1.length : Int)
 ·rw [if_pos c3] at H
  have c3b0 : ((l0.length : Int) == (l1.length : Int)) = true := beq_iff_eq.mpr c3
  have c3b1 : ((l0.length : Int) != (l1.length : Int)) = false := bne_eq_false_iff_eq.mpr c3
  have c3b2 : (l0.length == l1.length) = true := by first | simpa using c3 | (simp at c3 ⊢; omega)
  clear c3
  have H' := zm H
  clear H
  go_enter Try.func46, Try.ntmps46
  go_wp2
  repeat (go_quiet (fail); try go_wp2)
  go_loopg [5] k (fun kq v5 w' => ∃ (x5_1 : Int), v5 = .int .i64 x5_1 ∧ Aside0 (laws_sameTexts.l0 kq l0 l1 x5_1 = some r) ∧ Aside0 (kq ≤ k) ∧ Drawn0 w w')
  case atStart => exact ⟨(0), zr, H', ⟨Nat.le_refl _⟩, by repeat (first | exact Drawn0.refl _ | apply Drawn0.step)⟩
  case round =>
   clear H'
   try clear c1
   try clear p2
   try clear c3
   try clear c3b0
   try clear c3b1
   try clear c3b2
   obtain ⟨x5_1, rfl, HA, HK1, ⟨m1, rfl⟩⟩ := hrel
   cases gk with
   | zero => exact absurd HA.out (by simp [laws_sameTexts.l0])
   | succ k1 =>
    have H := HA.out
    clear HA
    simp only [laws_sameTexts.l0] at H
    by_cases c4 : x5_1 < (l0.length : Int)
    ·rw [if_pos c4] at H
     have c4b0 : decide (x5_1 < (l0.length : Int)) = true := decide_eq_true c4
     clear c4
     by_cases c5 : 0 ≤ x5_1
     ·rw [if_pos c5] at H
      have c5b0 : decide (0 ≤ x5_1) = true := decide_eq_true c5
      clear c5
      by_cases c6 : x5_1 < (l1.length : Int)
      ·rw [if_pos c6] at H
       have c6b0 : decide (x5_1 < (l1.length : Int)) = true := decide_eq_true c6
       clear c6
       by_cases c7 : (rdOf ByteArray.empty l0 x5_1).toList = (rdOf ByteArray.empty l1 x5_1).toList
       ·rw [if_pos c7] at H
        have c7b0 : ((rdOf ByteArray.empty l0 x5_1).toList == (rdOf ByteArray.empty l1 x5_1).toList) = true := beq_iff_eq.mpr c7
        have c7b1 : ((rdOf ByteArray.empty l0 x5_1).toList != (rdOf ByteArray.empty l1 x5_1).toList) = false := bne_eq_false_iff_eq.mpr c7
        clear c7
        have H' := zm H
        clear H
        have p619 : 0 ≤ (x5_1 : Int) := of_decide_eq_true (by first | (with_reducible assumption) | assumption)
        have q619 : x5_1 < (l0.length : Int) := of_decide_eq_true (by first | (with_reducible assumption) | assumption)
        obtain ⟨ad619, e619, hx619_0⟩ := Kd.at_string HR0.out x5_1 p619 q619
        cases e619
        replace p619 := eq_true p619
        replace q619 := eq_true q619
        have p620 : 0 ≤ (x5_1 : Int) := of_decide_eq_true (by first | (with_reducible assumption) | assumption)
        have q620 : x5_1 < (l1.length : Int) := of_decide_eq_true (by first | (with_reducible assumption) | assumption)
        obtain ⟨ad620, e620, hx620_0⟩ := Kd.at_string HR1.out x5_1 p620 q620
        cases e620
        replace p620 := eq_true p620
        replace q620 := eq_true q620
        go_wp2
        repeat (go_quiet (fail); try go_wp2)
        go_roundg k1
        case measure => have := HK1.out; omega
        case rel => exact ⟨(wrap64 (x5_1 + 1)), zr, H', ⟨by have := HK1.out; omega⟩, by repeat (first | exact Drawn0.refl _ | apply Drawn0.step)⟩
       ·rw [if_neg c7] at H
        have c7b0 : ((rdOf ByteArray.empty l0 x5_1).toList == (rdOf ByteArray.empty l1 x5_1).toList) = false := beq_eq_false_iff_ne.mpr c7
        have c7b1 : ((rdOf ByteArray.empty l0 x5_1).toList != (rdOf ByteArray.empty l1 x5_1).toList) = true := bne_iff_ne.mpr c7
        obtain rfl := Option.some.inj H
        have p619 : 0 ≤ (x5_1 : Int) := of_decide_eq_true (by first | (with_reducible assumption) | assumption)
        have q619 : x5_1 < (l0.length : Int) := of_decide_eq_true (by first | (with_reducible assumption) | assumption)
        obtain ⟨ad619, e619, hx619_0⟩ := Kd.at_string HR0.out x5_1 p619 q619
        cases e619
        replace p619 := eq_true p619
        replace q619 := eq_true q619
        have p620 : 0 ≤ (x5_1 : Int) := of_decide_eq_true (by first | (with_reducible assumption) | assumption)
        have q620 : x5_1 < (l1.length : Int) := of_decide_eq_true (by first | (with_reducible assumption) | assumption)
        obtain ⟨ad620, e620, hx620_0⟩ := Kd.at_string HR1.out x5_1 p620 q620
        cases e620
        replace p620 := eq_true p620
        replace q620 := eq_true q620
        go_wp2
        repeat (go_quiet (fail); try go_wp2)
        go_ret
        exact ⟨zr, by repeat (first | exact Drawn0.refl _ | apply Drawn0.step)⟩
      ·rw [if_neg c6] at H
       exact absurd H (by simp)
     ·rw [if_neg c5] at H
      exact absurd H (by simp)
    ·rw [if_neg c4] at H
     have c4b0 : decide (x5_1 < (l0.length : Int)) = false := decide_eq_false c4
     clear c4
     obtain rfl := Option.some.inj H
     go_wp2
     repeat (go_quiet (fail); try go_wp2)
     go_ret
     exact ⟨zr, by repeat (first | exact Drawn0.refl _ | apply Drawn0.step)⟩
 ·rw [if_neg c3] at H
  have c3b0 : ((l0.length : Int) == (l1.length : Int)) = false := beq_eq_false_iff_ne.mpr c3
  have c3b1 : ((l0.length : Int) != (l1.length : Int)) = true := bne_iff_ne.mpr c3
  have c3b2 : (l0.length == l1.length) = false := by first | simpa using c3 | (simp at c3 ⊢; omega)
  obtain rfl := Option.some.inj H
  go_enter Try.func46, Try.ntmps46
  go_wp2
  repeat (go_quiet (fail); try go_wp2)
  go_ret
  exact ⟨zr, by repeat (first | exact Drawn0.refl _ | apply Drawn0.step)⟩
end
end Go.Proofs.Ytajflpcihblkfaa.Q
