/- A part of the proofs of this seat: rules of a logic of owned and of lent memory, what functions compute, or their walks. -/
import Derived.Test.YtclediplagkblaaGreatCore12
import Derived.Test.YtclediplagkblaaGreatProg
import Derived.Test.YtclediplagkblaaGreatSp8
import Derived.Test.YtclediplagkblaaGreatWk5
import Derived.Test.YtclediplagkblaaGreatWk9
set_option linter.unusedVariables false
set_option linter.unusedSimpArgs false
namespace Go.Hb.Wk10
open Go Go.Proofs
open Go.Hb.Wk1 Go.Hb.Wk2 Go.Hb.Wk3 Go.Hb.Wk4 Go.Hb.Wk5 Go.Hb.Wk6 Go.Hb.Wk7 Go.Hb.Wk8 Go.Hb.Wk9
theorem ze173 : Zero Tryz.prog 173 ([.str [], .i64 0, .i64 0]) := Zero.ofK (by kernel_rfl)
theorem ze47 : Zero Tryz.prog 47 ([.u8 0, .sl none 0 0, .i64 0, .sl none 0 0, .i64 0, .sl none 0 0, .i64 0, .i64 0, .sl none 0 0, .i64 0, .i64 0, .sl none 0 0, .i64 0, .u32 0, .u32 0, .u32 0, .u32 0, .u32 0, .u32 0, .u32 0, .f 0, .f 0, .sl none 0 0]) := Zero.ofK (by kernel_rfl)
theorem ze67 : Zero Tryz.prog 67 ([.str [], .u8 0, .sl none 0 0]) := Zero.ofK (by kernel_rfl)
theorem ze71 : Zero Tryz.prog 71 ([.i64 0, .i64 0]) := Zero.ofK (by kernel_rfl)
theorem ze9 : Zero Tryz.prog 9 ([.str []]) := Zero.ofK (by kernel_rfl)
theorem ag173 : Aggr Tryz.prog 173 3 := ⟨fun _ => by kernel_rfl, fun _ => by kernel_rfl⟩
theorem ag47 : Aggr Tryz.prog 47 23 := ⟨fun _ => by kernel_rfl, fun _ => by kernel_rfl⟩
theorem ag67 : Aggr Tryz.prog 67 3 := ⟨fun _ => by kernel_rfl, fun _ => by kernel_rfl⟩
theorem ag71 : Aggr Tryz.prog 71 2 := ⟨fun _ => by kernel_rfl, fun _ => by kernel_rfl⟩
theorem fa173_0 : FA Tryz.prog 173 0 0 := fun _ _ => by kernel_rfl
theorem fa178_1 : FA Tryz.prog 178 1 1 := fun _ _ => by kernel_rfl
theorem fa71_0 : FA Tryz.prog 71 0 0 := fun _ _ => by kernel_rfl
theorem la47 : Lay Tryz.prog 47 ([.u8 0, .sl none 0 0, .i64 0, .sl none 0 0, .i64 0, .sl none 0 0, .i64 0, .i64 0, .sl none 0 0, .i64 0, .i64 0, .sl none 0 0, .i64 0, .u32 0, .u32 0, .u32 0, .u32 0, .u32 0, .u32 0, .u32 0, .f 0, .f 0, .sl none 0 0]) [(0, 1), (1, 1), (2, 2), (4, 2), (6, 3), (9, 3), (12, 11)] := Lay.ofK ze47 (by kernel_rfl)
theorem la67 : Lay Tryz.prog 67 ([.str [], .u8 0, .sl none 0 0]) [(0, 1), (1, 1), (2, 1)] := Lay.ofK ze67 (by kernel_rfl)
theorem la71 : Lay Tryz.prog 71 ([.i64 0, .i64 0]) [(0, 1), (1, 1)] := Lay.ofK ze71 (by kernel_rfl)
theorem sc170 : Scal Tryz.prog 170 := ⟨fun _ => by kernel_rfl, fun _ => by kernel_rfl⟩
theorem sc3 : Scal Tryz.prog 3 := ⟨fun _ => by kernel_rfl, fun _ => by kernel_rfl⟩
theorem sc9 : Scal Tryz.prog 9 := ⟨fun _ => by kernel_rfl, fun _ => by kernel_rfl⟩
theorem sl170 : SlT Tryz.prog 170 173 3 32 := SlT.ofB (by kernel_rfl) rfl
theorem sl77 : SlT Tryz.prog 77 91 24 272 := SlT.ofB (by kernel_rfl) rfl
theorem sl80 : SlT Tryz.prog 80 9 1 16 := SlT.ofB (by kernel_rfl) rfl
theorem un73 : Tryz.prog.underlying 73 = some (.pointer 178) := by kernel_rfl
theorem un77 : Tryz.prog.underlying 77 = some (.slice 91) := by kernel_rfl
theorem most_c  :
    Tr Tryz.prog 30 [] (fun o => True) ([]) (fun x H' => x = .agg [.i64 1000, .i64 1048576] ∧ H' = []) := by
  refine Tr_intro Tryz.func30 rfl rfl (fun c hR => ?_)
  refine C_seq ?_
  refine C_region ?_
  refine W_op rfl (op_alloc ze71 rfl ?_)
  intro gt0
  refine W_nil ?_
  refine N_then ?_
  refine C_seq ?_
  refine C_region ?_
  refine W_rd (rd_build la71 rfl rfl rfl) rfl rfl rfl ?_
  first | refine W_op rfl (op_sts 0 rfl rfl rfl ag71 rfl rfl rfl rfl ?_) | refine W_op rfl (op_sts 1 rfl rfl rfl ag71 rfl rfl rfl rfl ?_) | refine W_op rfl (op_sts 2 rfl rfl rfl ag71 rfl rfl rfl rfl ?_) | refine W_op rfl (op_sts 3 rfl rfl rfl ag71 rfl rfl rfl rfl ?_) | refine W_op rfl (op_sts 4 rfl rfl rfl ag71 rfl rfl rfl rfl ?_) | refine W_op rfl (op_sts 5 rfl rfl rfl ag71 rfl rfl rfl rfl ?_) | refine W_op rfl (op_sts 6 rfl rfl rfl ag71 rfl rfl rfl rfl ?_) | refine W_op rfl (op_sts 7 rfl rfl rfl ag71 rfl rfl rfl rfl ?_)
  refine W_nil ?_
  refine N_then ?_
  refine C_ret ?_
  repeat (first | refine Rt_then ?_ | refine Rt_block ?_)
  exact RetC [] 0 rfl rfl rfl ag71 rfl rfl rfl rfl ⟨rfl, rfl⟩
theorem clone0_c  :
    Tr Tryz.prog 107 [.sl none 0 0] (fun o => True) ([]) (fun x H' => x = .sl none 0 0 ∧ H' = []) := by
  refine Tr_intro Tryz.func107 rfl rfl (fun c hR => ?_)
  refine C_seq ?_
  refine C_region ?_
  refine W_rd (rd_assign rfl) rfl rfl rfl ?_
  refine W_nil ?_
  refine N_then ?_
  refine C_seq ?_
  refine C_seq ?_
  refine C_region ?_
  refine W_rd (rd_move rfl) rfl rfl rfl ?_
  refine W_rd (rd_sl_nil un77 rfl rfl) rfl rfl rfl ?_
  refine W_nil ?_
  refine N_then ?_
  refine C_cond rfl (fun ht4 => ?_) (fun h => by first | (cases h; done) | (simp at h; done) | (simp at h; omega))
  refine C_seq ?_
  refine C_region ?_
  refine W_rd (rd_assign rfl) rfl rfl rfl ?_
  refine W_nil ?_
  refine N_then ?_
  refine C_ret ?_
  repeat (first | refine Rt_then ?_ | refine Rt_block ?_)
  exact Ret1 [] rfl rfl rfl rfl ⟨rfl, rfl⟩
theorem ins0_c  :
    Tr Tryz.prog 253 [.sl none 0 0, .i64 0, .i64 0, .raw (.func (.func 109) #[] #[])] (fun o => True) ([]) (fun x H' => x = .tup [] ∧ H' = []) := by
  refine Tr_intro Tryz.func253 rfl rfl (fun c hR => ?_)
  refine C_seq ?_
  refine C_region ?_
  refine W_rd (rd_move rfl) rfl rfl rfl ?_
  refine W_rd (rd_iadd rfl rfl (by omega)) rfl rfl rfl ?_
  refine W_rd (rd_assign rfl) rfl rfl rfl ?_
  refine W_nil ?_
  refine N_then ?_
  refine C_block ?_
  refine C_loop (γ := Unit) (fun u => True) (fun u => [(2, .i64 0), (8, .i64 1)]) (fun u => []) (fun u => 0) () ?hI0 (subL.spec ⟨rfl, rfl, trivial⟩) (List.Perm.refl _) ?_
  case hI0 => trivial
  rintro u hI0
  refine C_seq ?_
  refine C_seq ?_
  refine C_region ?_
  refine W_rd (rd_move rfl) rfl rfl rfl ?_
  refine W_rd (rd_move rfl) rfl rfl rfl ?_
  refine W_rd (rd_bin rfl rfl rfl) rfl rfl rfl ?_
  refine W_nil ?_
  refine N_then ?_
  refine C_cond rfl (fun h => by first | (cases h; done) | (simp at h; done) | (simp at h; omega)) (fun ht14 => ?_)
  refine C_exit ?_
  repeat (first | refine X_then ?_ | refine X_here ?_ | refine X_block rfl ?_)
  exact End0 [] rfl rfl rfl ⟨rfl, rfl⟩
theorem stab0_c  :
    Tr Tryz.prog 193 [.sl none 0 0, .i64 0, .raw (.func (.func 109) #[] #[])] (fun o => True) ([]) (fun x H' => x = .tup [] ∧ H' = []) := by
  refine Tr_intro Tryz.func193 rfl rfl (fun c hR => ?_)
  refine C_seq ?_
  refine C_region ?_
  refine W_rd (rd_assign rfl) rfl rfl rfl ?_
  refine W_nil ?_
  refine N_then ?_
  refine C_seq ?_
  refine C_region ?_
  refine W_rd (rd_move rfl) rfl rfl rfl ?_
  refine W_rd (rd_assign rfl) rfl rfl rfl ?_
  refine W_rd (rd_assign rfl) rfl rfl rfl ?_
  refine W_nil ?_
  refine N_then ?_
  refine C_seq ?_
  refine C_block ?_
  refine C_loop (γ := Unit) (fun u => True) (fun u => [(0, .sl none 0 0), (1, .i64 0), (2, .raw (.func (.func 109) #[] #[])), (6, .i64 20), (7, .i64 0), (8, .i64 20)]) (fun u => []) (fun u => 0) () ?hI0 (subL.spec ⟨rfl, rfl, rfl, rfl, rfl, rfl, trivial⟩) (List.Perm.refl _) ?_
  case hI0 => trivial
  rintro u hI0
  refine C_seq ?_
  refine C_seq ?_
  refine C_region ?_
  refine W_rd (rd_move rfl) rfl rfl rfl ?_
  refine W_rd (rd_move rfl) rfl rfl rfl ?_
  refine W_rd (rd_bin rfl rfl rfl) rfl rfl rfl ?_
  refine W_nil ?_
  refine N_then ?_
  refine C_cond rfl (fun h => by first | (cases h; done) | (simp at h; done) | (simp at h; omega)) (fun ht13 => ?_)
  refine C_exit ?_
  repeat (first | refine X_then ?_ | refine X_here ?_ | refine X_block rfl ?_)
  refine N_then ?_
  refine C_seq ?_
  refine C_region ?_
  refine W_rd (rd_move rfl) rfl rfl rfl ?_
  refine W_rd (rd_move rfl) rfl rfl rfl ?_
  refine W_rd (rd_move rfl) rfl rfl rfl ?_
  refine W_rd (rd_move rfl) rfl rfl rfl ?_
  refine W_op rfl (op_call (ins0_c) Tryz.func253 rfl rfl rfl (pickR_spec (is := []) rfl) (fun _ _ _ => trivial) rfl ?_)
  rintro xt27 Ht27 ⟨rfl, rfl⟩
  refine W_nil ?_
  refine N_then ?_
  refine C_block ?_
  refine C_loop (γ := Unit) (fun u => True) (fun u => [(1, .i64 0), (6, .i64 20)]) (fun u => []) (fun u => 0) () ?hI2 (subL.spec ⟨rfl, rfl, trivial⟩) (List.Perm.refl _) ?_
  case hI2 => trivial
  rintro u hI2
  refine C_seq ?_
  refine C_seq ?_
  refine C_region ?_
  refine W_rd (rd_move rfl) rfl rfl rfl ?_
  refine W_rd (rd_move rfl) rfl rfl rfl ?_
  refine W_rd (rd_bin rfl rfl rfl) rfl rfl rfl ?_
  refine W_nil ?_
  refine N_then ?_
  refine C_cond rfl (fun h => by first | (cases h; done) | (simp at h; done) | (simp at h; omega)) (fun ht30 => ?_)
  refine C_exit ?_
  repeat (first | refine X_then ?_ | refine X_here ?_ | refine X_block rfl ?_)
  exact End0 [] rfl rfl rfl ⟨rfl, rfl⟩
theorem sort0_c  :
    Tr Tryz.prog 108 [.sl none 0 0, .raw (.func (.func 109) #[] #[])] (fun o => True) ([]) (fun x H' => x = .tup [] ∧ H' = []) := by
  refine Tr_intro Tryz.func108 rfl rfl (fun c hR => ?_)
  refine C_region ?_
  refine W_rd (rd_move rfl) rfl rfl rfl ?_
  refine W_rd (rd_move rfl) rfl rfl rfl ?_
  refine W_rd (rd_len sl77.und rfl) rfl rfl rfl ?_
  refine W_rd (rd_move rfl) rfl rfl rfl ?_
  refine W_op rfl (op_call (stab0_c) Tryz.func193 rfl rfl rfl (pickR_spec (is := []) rfl) (fun _ _ _ => trivial) rfl ?_)
  rintro xt8 Ht8 ⟨rfl, rfl⟩
  refine W_nil ?_
  exact End0 [] rfl rfl rfl ⟨rfl, rfl⟩
theorem build0_c  :
    Tr Tryz.prog 38 [.sl none 0 0, .agg [.i64 1000, .i64 1048576]] (fun o => True) ([]) (fun x H' => ∃ A cp, x = .tup [.sl A B23.length cp, .i64 0] ∧ H' = [Row 1 5 A B23.length cp (B23.map .u8)]) := by
  refine Tr_intro Tryz.func38 rfl rfl (fun c hR => ?_)
  refine C_seq ?_
  refine C_region ?_
  refine W_op rfl (op_box rfl (by first | exact .inl rfl | exact .inr ⟨_, rfl⟩) rfl ?_)
  intro gt3
  refine W_rd (rd_assign rfl) rfl rfl rfl ?_
  refine W_rd (rd_assign rfl) rfl rfl rfl ?_
  refine W_nil ?_
  refine N_then ?_
  refine C_seq ?_
  refine C_region ?_
  first | refine W_op rfl (op_loads 0 rfl rfl ag71 rfl rfl rfl ?_) | refine W_op rfl (op_loads 1 rfl rfl ag71 rfl rfl rfl ?_) | refine W_op rfl (op_loads 2 rfl rfl ag71 rfl rfl rfl ?_) | refine W_op rfl (op_loads 3 rfl rfl ag71 rfl rfl rfl ?_) | refine W_op rfl (op_loads 4 rfl rfl ag71 rfl rfl rfl ?_) | refine W_op rfl (op_loads 5 rfl rfl ag71 rfl rfl rfl ?_) | refine W_op rfl (op_loads 6 rfl rfl ag71 rfl rfl rfl ?_) | refine W_op rfl (op_loads 7 rfl rfl ag71 rfl rfl rfl ?_)
  refine W_op rfl (op_call (within_c 1000 1048576) Tryz.func96 rfl rfl rfl (pickR_spec (is := []) rfl) (fun _ _ _ => trivial) rfl ?_)
  rintro xt12 Ht12 ⟨rfl, rfl⟩
  first | refine W_op rfl (op_sts 0 rfl rfl rfl ag71 rfl rfl rfl rfl ?_) | refine W_op rfl (op_sts 1 rfl rfl rfl ag71 rfl rfl rfl rfl ?_) | refine W_op rfl (op_sts 2 rfl rfl rfl ag71 rfl rfl rfl rfl ?_) | refine W_op rfl (op_sts 3 rfl rfl rfl ag71 rfl rfl rfl rfl ?_) | refine W_op rfl (op_sts 4 rfl rfl rfl ag71 rfl rfl rfl rfl ?_) | refine W_op rfl (op_sts 5 rfl rfl rfl ag71 rfl rfl rfl rfl ?_) | refine W_op rfl (op_sts 6 rfl rfl rfl ag71 rfl rfl rfl rfl ?_) | refine W_op rfl (op_sts 7 rfl rfl rfl ag71 rfl rfl rfl rfl ?_)
  refine W_nil ?_
  refine N_then ?_
  refine C_seq ?_
  refine C_seq ?_
  refine C_region ?_
  refine W_rd (rd_move rfl) rfl rfl rfl ?_
  refine W_rd (rd_len sl77.und rfl) rfl rfl rfl ?_
  refine W_rd (rd_fieldAddr fa71_0 rfl) rfl rfl rfl ?_
  first | refine W_op rfl (op_load 0 rfl rfl sc3 rfl rfl ?_) | refine W_op rfl (op_load 1 rfl rfl sc3 rfl rfl ?_) | refine W_op rfl (op_load 2 rfl rfl sc3 rfl rfl ?_) | refine W_op rfl (op_load 3 rfl rfl sc3 rfl rfl ?_) | refine W_op rfl (op_load 4 rfl rfl sc3 rfl rfl ?_) | refine W_op rfl (op_load 5 rfl rfl sc3 rfl rfl ?_) | refine W_op rfl (op_load 6 rfl rfl sc3 rfl rfl ?_) | refine W_op rfl (op_load 7 rfl rfl sc3 rfl rfl ?_)
  refine W_rd (rd_bin rfl rfl rfl) rfl rfl rfl ?_
  refine W_nil ?_
  refine N_then ?_
  refine C_cond rfl (fun h => by first | (cases h; done) | (simp at h; done) | (simp at h; omega)) (fun ht17 => ?_)
  refine C_skip ?_
  refine N_then ?_
  refine C_seq ?_
  refine C_region ?_
  refine W_rd (rd_move rfl) rfl rfl rfl ?_
  refine W_op rfl (op_call (clone0_c) Tryz.func107 rfl rfl rfl (pickR_spec (is := []) rfl) (fun _ _ _ => trivial) rfl ?_)
  rintro xt19 Ht19 ⟨rfl, rfl⟩
  refine W_rd (rd_assign rfl) rfl rfl rfl ?_
  refine W_nil ?_
  refine N_then ?_
  refine C_seq ?_
  refine C_region ?_
  refine W_rd (rd_move rfl) rfl rfl rfl ?_
  refine W_op rfl (op_call (sort0_c) Tryz.func108 rfl rfl rfl (pickR_spec (is := []) rfl) (fun _ _ _ => trivial) rfl ?_)
  rintro xt21 Ht21 ⟨rfl, rfl⟩
  refine W_nil ?_
  refine N_then ?_
  refine C_seq ?_
  refine C_region ?_
  refine W_rd (rd_assign rfl) rfl rfl rfl ?_
  refine W_nil ?_
  refine N_then ?_
  refine C_seq ?_
  refine C_seq ?_
  refine C_region ?_
  refine W_rd (rd_move rfl) rfl rfl rfl ?_
  refine W_rd (rd_len sl77.und rfl) rfl rfl rfl ?_
  refine W_rd (rd_move rfl) rfl rfl rfl ?_
  refine W_nil ?_
  refine N_then ?_
  refine C_block ?_
  refine C_loop (γ := Unit) (fun u => True) (fun u => [(3, .ptr gt3 0), (6, .sl none 0 0), (23, .i64 0), (24, .i64 0)]) (fun u => [Blk gt3 71 [.i64 (min (max 1000 0) 1000), .i64 (min (max 1048576 0) 1048576)]]) (fun u => 0) () ?hI0 (subL.spec ⟨rfl, rfl, rfl, rfl, trivial⟩) (List.Perm.refl _) ?_
  case hI0 => trivial
  rintro u hI0
  refine C_seq ?_
  refine C_region ?_
  refine W_rd (rd_bin rfl rfl rfl) rfl rfl rfl ?_
  refine W_nil ?_
  refine N_then ?_
  refine C_seq ?_
  refine C_cond rfl (fun h => by first | (cases h; done) | (simp at h; done) | (simp at h; omega)) (fun ht25 => ?_)
  refine C_exit ?_
  repeat (first | refine X_then ?_ | refine X_here ?_ | refine X_block rfl ?_)
  refine N_then ?_
  refine C_seq ?_
  refine C_region ?_
  refine W_rd (rd_move rfl) rfl rfl rfl ?_
  first | refine W_op rfl (op_loads 0 rfl rfl ag71 rfl rfl rfl ?_) | refine W_op rfl (op_loads 1 rfl rfl ag71 rfl rfl rfl ?_) | refine W_op rfl (op_loads 2 rfl rfl ag71 rfl rfl rfl ?_) | refine W_op rfl (op_loads 3 rfl rfl ag71 rfl rfl rfl ?_) | refine W_op rfl (op_loads 4 rfl rfl ag71 rfl rfl rfl ?_) | refine W_op rfl (op_loads 5 rfl rfl ag71 rfl rfl rfl ?_) | refine W_op rfl (op_loads 6 rfl rfl ag71 rfl rfl rfl ?_) | refine W_op rfl (op_loads 7 rfl rfl ag71 rfl rfl rfl ?_)
  refine W_op rfl (op_call (close_c none 0 [] (min (max 1000 0) 1000) (min (max 1048576 0) 1048576)) Tryz.func29 rfl rfl rfl (pickR_spec (is := []) rfl) (fun o _ _ => ⟨RS.nil _ _ _ (by simp [maxLen]), fun f h => by cases h⟩) rfl ?_)
  rw [close23]
  rintro xt64 Ht64 h
  rcases h with ⟨h0, A1, c1, rfl, rfl⟩ | ⟨h0, _⟩
  rotate_left
  · exact absurd rfl h0
  refine W_rd (rd_extract rfl rfl) rfl rfl rfl ?_
  refine W_rd (rd_extract rfl rfl) rfl rfl rfl ?_
  refine W_rd (rd_assign rfl) rfl rfl rfl ?_
  refine W_rd (rd_assign rfl) rfl rfl rfl ?_
  refine W_nil ?_
  refine N_then ?_
  refine C_ret ?_
  repeat (first | refine Rt_then ?_ | refine Rt_block ?_)
  exact Ret2 [0] rfl rfl rfl rfl rfl ⟨A1, c1, rfl, rfl⟩
theorem frameNil_c (nm : List UInt8) :
    Tr Tryz.prog 31 [.nilp, .str nm] (fun o => True) ([]) (fun x H' => x = .tup [.agg [.str [], .u8 0, .sl none 0 0], .i64 1] ∧ H' = []) := by
  refine Tr_intro Tryz.func31 rfl rfl (fun c hR => ?_)
  refine C_seq ?_
  refine C_region ?_
  refine W_op rfl (op_alloc ze67 rfl ?_)
  intro gt4
  refine W_rd (rd_assign rfl) rfl rfl rfl ?_
  refine W_nil ?_
  refine N_then ?_
  refine C_seq ?_
  refine C_seq ?_
  refine C_region ?_
  refine W_rd (rd_move rfl) rfl rfl rfl ?_
  first | refine W_rd (rd_ptr_eq rfl rfl un73) rfl rfl rfl ?_ | refine W_rd (rd_nil_eq rfl rfl un73) rfl rfl rfl ?_
  refine W_nil ?_
  refine N_then ?_
  refine C_cond rfl (fun ht11 => ?_) (fun h => by first | (cases h; done) | (simp at h; done) | (simp at h; omega))
  refine C_seq ?_
  refine C_region ?_
  refine W_rd (rd_build la67 rfl rfl rfl) rfl rfl rfl ?_
  first | refine W_op rfl (op_sts 0 rfl rfl rfl ag67 rfl rfl rfl rfl ?_) | refine W_op rfl (op_sts 1 rfl rfl rfl ag67 rfl rfl rfl rfl ?_) | refine W_op rfl (op_sts 2 rfl rfl rfl ag67 rfl rfl rfl rfl ?_) | refine W_op rfl (op_sts 3 rfl rfl rfl ag67 rfl rfl rfl rfl ?_) | refine W_op rfl (op_sts 4 rfl rfl rfl ag67 rfl rfl rfl rfl ?_) | refine W_op rfl (op_sts 5 rfl rfl rfl ag67 rfl rfl rfl rfl ?_) | refine W_op rfl (op_sts 6 rfl rfl rfl ag67 rfl rfl rfl rfl ?_) | refine W_op rfl (op_sts 7 rfl rfl rfl ag67 rfl rfl rfl rfl ?_)
  refine W_rd (rd_assign rfl) rfl rfl rfl ?_
  refine W_nil ?_
  refine N_then ?_
  refine C_ret ?_
  repeat (first | refine Rt_then ?_ | refine Rt_block ?_)
  exact RetC2 [] 0 rfl rfl rfl ag67 rfl rfl rfl rfl rfl ⟨rfl, rfl⟩
theorem getNil_c (nm : List UInt8) :
    Tr Tryz.prog 32 [.nilp, .str nm, .nilp] (fun o => True) ([]) (fun x H' => x = .tup [.agg skZ, .i64 1] ∧ H' = []) := by
  refine Tr_intro Tryz.func32 rfl rfl (fun c hR => ?_)
  refine C_seq ?_
  refine C_region ?_
  refine W_op rfl (op_alloc ze47 rfl ?_)
  intro gt6
  refine W_rd (rd_assign rfl) rfl rfl rfl ?_
  refine W_nil ?_
  refine N_then ?_
  refine C_seq ?_
  refine C_region ?_
  refine W_rd (rd_move rfl) rfl rfl rfl ?_
  refine W_rd (rd_move rfl) rfl rfl rfl ?_
  refine W_op rfl (op_call (frameNil_c nm) Tryz.func31 rfl rfl rfl (pickR_spec (is := []) rfl) (fun _ _ _ => trivial) rfl ?_)
  rintro xt13 Ht13 ⟨rfl, rfl⟩
  refine W_rd (rd_move rfl) rfl rfl rfl ?_
  refine W_rd (rd_extract rfl rfl) rfl rfl rfl ?_
  refine W_rd (rd_extract rfl rfl) rfl rfl rfl ?_
  refine W_op rfl (op_alloc ze67 rfl ?_)
  intro gt8
  first | refine W_op rfl (op_sts 0 rfl rfl rfl ag67 rfl rfl rfl rfl ?_) | refine W_op rfl (op_sts 1 rfl rfl rfl ag67 rfl rfl rfl rfl ?_) | refine W_op rfl (op_sts 2 rfl rfl rfl ag67 rfl rfl rfl rfl ?_) | refine W_op rfl (op_sts 3 rfl rfl rfl ag67 rfl rfl rfl rfl ?_) | refine W_op rfl (op_sts 4 rfl rfl rfl ag67 rfl rfl rfl rfl ?_) | refine W_op rfl (op_sts 5 rfl rfl rfl ag67 rfl rfl rfl rfl ?_) | refine W_op rfl (op_sts 6 rfl rfl rfl ag67 rfl rfl rfl rfl ?_) | refine W_op rfl (op_sts 7 rfl rfl rfl ag67 rfl rfl rfl rfl ?_)
  refine W_rd (rd_assign rfl) rfl rfl rfl ?_
  refine W_nil ?_
  refine N_then ?_
  refine C_seq ?_
  refine C_seq ?_
  refine C_region ?_
  refine W_rd (rd_move rfl) rfl rfl rfl ?_
  refine W_rd (rd_bin rfl rfl rfl) rfl rfl rfl ?_
  refine W_nil ?_
  refine N_then ?_
  refine C_cond rfl (fun ht17 => ?_) (fun h => by first | (cases h; done) | (simp at h; done) | (simp at h; omega))
  refine C_seq ?_
  refine C_region ?_
  refine W_rd (rd_build la47 rfl rfl rfl) rfl rfl rfl ?_
  refine W_rd (rd_move rfl) rfl rfl rfl ?_
  first | refine W_op rfl (op_sts 0 rfl rfl rfl ag47 rfl rfl rfl rfl ?_) | refine W_op rfl (op_sts 1 rfl rfl rfl ag47 rfl rfl rfl rfl ?_) | refine W_op rfl (op_sts 2 rfl rfl rfl ag47 rfl rfl rfl rfl ?_) | refine W_op rfl (op_sts 3 rfl rfl rfl ag47 rfl rfl rfl rfl ?_) | refine W_op rfl (op_sts 4 rfl rfl rfl ag47 rfl rfl rfl rfl ?_) | refine W_op rfl (op_sts 5 rfl rfl rfl ag47 rfl rfl rfl rfl ?_) | refine W_op rfl (op_sts 6 rfl rfl rfl ag47 rfl rfl rfl rfl ?_) | refine W_op rfl (op_sts 7 rfl rfl rfl ag47 rfl rfl rfl rfl ?_)
  refine W_rd (rd_assign rfl) rfl rfl rfl ?_
  refine W_nil ?_
  refine N_then ?_
  refine C_ret ?_
  repeat (first | refine Rt_then ?_ | refine Rt_block ?_)
  exact RetC2 [] 1 rfl rfl rfl ag47 rfl rfl rfl rfl rfl ⟨rfl, rfl⟩
theorem allNil_c  :
    Tr Tryz.prog 33 [.nilp, .nilp] (fun o => True) ([]) (fun x H' => x = .tup [.sl none 0 0, .i64 1] ∧ H' = []) := by
  refine Tr_intro Tryz.func33 rfl rfl (fun c hR => ?_)
  refine C_seq ?_
  refine C_region ?_
  refine W_rd (rd_assign rfl) rfl rfl rfl ?_
  refine W_rd (rd_assign rfl) rfl rfl rfl ?_
  refine W_nil ?_
  refine N_then ?_
  refine C_seq ?_
  refine C_seq ?_
  refine C_region ?_
  refine W_rd (rd_move rfl) rfl rfl rfl ?_
  first | refine W_rd (rd_ptr_eq rfl rfl un73) rfl rfl rfl ?_ | refine W_rd (rd_nil_eq rfl rfl un73) rfl rfl rfl ?_
  refine W_nil ?_
  refine N_then ?_
  refine C_cond rfl (fun ht12 => ?_) (fun h => by first | (cases h; done) | (simp at h; done) | (simp at h; omega))
  refine C_seq ?_
  refine C_region ?_
  refine W_rd (rd_assign rfl) rfl rfl rfl ?_
  refine W_rd (rd_assign rfl) rfl rfl rfl ?_
  refine W_nil ?_
  refine N_then ?_
  refine C_ret ?_
  repeat (first | refine Rt_then ?_ | refine Rt_block ?_)
  exact Ret2 [] rfl rfl rfl rfl rfl ⟨rfl, rfl⟩
theorem names_c (g : Nat) (A1 A2 : Option Addr) (n1 c1 c2 : Nat) (es : List Ent) (hn : es.length ≤ 1000) :
    Tr Tryz.prog 34 [.ptr g 0] (fun o => RS o 3 A2 es.length c2 (es.flatMap Ent.tv)) ([Blk g 178 [.sl A1 n1 c1, .sl A2 es.length c2]]) (fun x H' => ∃ A cp, x = .sl A es.length cp ∧ H' = [Row 1 9 A es.length cp (es.map fun e => .str e.nm), Blk g 178 [.sl A1 n1 c1, .sl A2 es.length c2]]) := by
  refine Tr_intro Tryz.func34 rfl rfl (fun c hR => ?_)
  refine C_seq ?_
  refine C_region ?_
  refine W_rd (rd_assign rfl) rfl rfl rfl ?_
  refine W_nil ?_
  refine N_then ?_
  refine C_seq ?_
  refine C_region ?_
  refine W_rd (rd_assign rfl) rfl rfl rfl ?_
  refine W_nil ?_
  refine N_then ?_
  refine C_seq ?_
  refine C_seq ?_
  refine C_region ?_
  refine W_rd (rd_move rfl) rfl rfl rfl ?_
  first | refine W_rd (rd_ptr_ne rfl rfl un73) rfl rfl rfl ?_ | refine W_rd (rd_nil_ne rfl rfl un73) rfl rfl rfl ?_
  refine W_nil ?_
  refine N_then ?_
  refine C_cond rfl (fun ht7 => ?_) (fun h => by first | (cases h; done) | (simp at h; done) | (simp at h; omega))
  refine C_seq ?_
  refine C_nil_row 1 9 ?_
  refine C_region ?_
  refine W_rd (rd_move rfl) rfl rfl rfl ?_
  refine W_rd (rd_nilCheck rfl) rfl rfl rfl ?_
  refine W_rd (rd_fieldAddr fa178_1 rfl) rfl rfl rfl ?_
  first | refine W_op rfl (op_load 0 rfl rfl sc170 rfl rfl ?_) | refine W_op rfl (op_load 1 rfl rfl sc170 rfl rfl ?_) | refine W_op rfl (op_load 2 rfl rfl sc170 rfl rfl ?_) | refine W_op rfl (op_load 3 rfl rfl sc170 rfl rfl ?_) | refine W_op rfl (op_load 4 rfl rfl sc170 rfl rfl ?_) | refine W_op rfl (op_load 5 rfl rfl sc170 rfl rfl ?_) | refine W_op rfl (op_load 6 rfl rfl sc170 rfl rfl ?_) | refine W_op rfl (op_load 7 rfl rfl sc170 rfl rfl ?_)
  refine W_rd (rd_len sl170.und rfl) rfl rfl rfl ?_
  refine W_rd (rd_move rfl) rfl rfl rfl ?_
  refine W_nil ?_
  refine N_then ?_
  refine C_block ?_
  refine C_loop (γ := Nat × Option Addr × Nat) (fun q => q.1 ≤ es.length) (fun q => [(3, .sl q.2.1 q.1 q.2.2), (11, .sl A2 es.length c2), (12, .i64 (es.length : Int)), (13, .i64 (q.1 : Int))]) (fun q => [Row 1 9 q.2.1 q.1 q.2.2 ((es.take q.1).map fun e => .str e.nm), Blk g 178 [.sl A1 n1 c1, .sl A2 es.length c2]]) (fun q => es.length - q.1) (0, none, 0) ?hI0 (subL.spec ⟨rfl, rfl, rfl, rfl, trivial⟩) (List.Perm.refl _) ?_
  case hI0 => exact Nat.zero_le _
  rintro q hI0
  refine C_seq ?_
  refine C_region ?_
  refine W_rd (rd_bin rfl rfl rfl) rfl rfl rfl ?_
  refine W_nil ?_
  refine N_then ?_
  refine C_seq ?_
  refine C_cond rfl (fun ht14 => ?_) (fun ht14 => ?_)
  ·
    refine C_skip ?_
    refine N_then ?_
    refine C_seq ?_
    refine C_block ?_
    refine C_seq ?_
    have hk : q.1 < es.length := (by simp at ht14; omega)
    obtain ⟨e, he⟩ : ∃ e, es[q.1]? = some e := ⟨es[q.1], by simp [hk]⟩
    refine C_region ?_
    refine W_rd (rd_indexN sl170 hR rfl rfl (by omega)) rfl rfl rfl ?_
    refine W_rd (rd_loads_el hR rfl ag173 (flat_get (f := Ent.tv) (fun _ => rfl) he) rfl (by omega)) rfl rfl rfl ?_
    refine W_op rfl (op_alloc ze173 rfl ?_)
    intro gt5
    first | refine W_op rfl (op_sts 0 rfl rfl rfl ag173 rfl rfl rfl rfl ?_) | refine W_op rfl (op_sts 1 rfl rfl rfl ag173 rfl rfl rfl rfl ?_) | refine W_op rfl (op_sts 2 rfl rfl rfl ag173 rfl rfl rfl rfl ?_) | refine W_op rfl (op_sts 3 rfl rfl rfl ag173 rfl rfl rfl rfl ?_) | refine W_op rfl (op_sts 4 rfl rfl rfl ag173 rfl rfl rfl rfl ?_) | refine W_op rfl (op_sts 5 rfl rfl rfl ag173 rfl rfl rfl rfl ?_) | refine W_op rfl (op_sts 6 rfl rfl rfl ag173 rfl rfl rfl rfl ?_) | refine W_op rfl (op_sts 7 rfl rfl rfl ag173 rfl rfl rfl rfl ?_)
    refine W_nil ?_
    refine N_then ?_
    refine C_region ?_
    refine W_rd (rd_move rfl) rfl rfl rfl ?_
    refine W_rd (rd_fieldAddr fa173_0 rfl) rfl rfl rfl ?_
    first | refine W_op rfl (op_load 0 rfl rfl sc9 rfl rfl ?_) | refine W_op rfl (op_load 1 rfl rfl sc9 rfl rfl ?_) | refine W_op rfl (op_load 2 rfl rfl sc9 rfl rfl ?_) | refine W_op rfl (op_load 3 rfl rfl sc9 rfl rfl ?_) | refine W_op rfl (op_load 4 rfl rfl sc9 rfl rfl ?_) | refine W_op rfl (op_load 5 rfl rfl sc9 rfl rfl ?_) | refine W_op rfl (op_load 6 rfl rfl sc9 rfl rfl ?_) | refine W_op rfl (op_load 7 rfl rfl sc9 rfl rfl ?_)
    refine W_op rfl (op_slice sl80 ze9 rfl rfl rfl rfl rfl rfl (by omega) rfl ?_)
    intro At20 hAt20
    refine W_op rfl (op_append 2 sl80 rfl rfl rfl (Src.ofRow 0 rfl rfl) rfl (by omega) rfl ?_)
    intro At21 ct21 Ht21 hHt21; obtain rfl := Option.some.inj hHt21
    refine W_rd (rd_assign rfl) rfl rfl rfl ?_
    refine W_nil ?_
    refine N_block ?_
    refine N_then ?_
    refine C_region ?_
    refine W_rd (rd_iadd rfl rfl (by omega)) rfl rfl rfl ?_
    refine W_rd (rd_move rfl) rfl rfl rfl ?_
    refine W_nil ?_
    refine N_pick [2, 2] rfl (N_round (q.1 + 1, At21, ct21) (by simp only []; omega) (by simp only []; omega) (subL.spec ⟨rfl, rfl, rfl, rfl, trivial⟩) (by rw [List.take_add_one, he]; simp))
  ·
    obtain ⟨k, A', cp'⟩ := q
    obtain rfl : k = es.length := (by simp at ht14 hI0; omega)
    refine C_exit ?_
    repeat (first | refine X_then ?_ | refine X_here ?_ | refine X_block rfl ?_)
    refine N_then ?_
    refine C_seq ?_
    refine C_region ?_
    refine W_rd (rd_move rfl) rfl rfl rfl ?_
    refine W_rd (rd_assign rfl) rfl rfl rfl ?_
    refine W_nil ?_
    refine N_then ?_
    refine C_ret ?_
    repeat (first | refine Rt_then ?_ | refine Rt_block ?_)
    exact Ret1 [0, 0] rfl rfl rfl rfl ⟨A', cp', rfl, by simp⟩
end Go.Hb.Wk10
