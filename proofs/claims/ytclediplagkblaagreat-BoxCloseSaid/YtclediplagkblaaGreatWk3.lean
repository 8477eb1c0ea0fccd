/- A part of the proofs of this seat: rules of a logic of owned and of lent memory, what functions compute, or their walks. -/
import Derived.Test.YtclediplagkblaaGreatCore12
import Derived.Test.YtclediplagkblaaGreatProg
import Derived.Test.YtclediplagkblaaGreatSp3
import Derived.Test.YtclediplagkblaaGreatWk2
set_option linter.unusedVariables false
set_option linter.unusedSimpArgs false
namespace Go.Hb.Wk3
open Go Go.Proofs
open Go.Hb.Wk1 Go.Hb.Wk2
theorem ze157 : Zero Tryz.prog 157 ([.sl none 0 0]) := Zero.ofK (by kernel_rfl)
theorem ze71 : Zero Tryz.prog 71 ([.i64 0, .i64 0]) := Zero.ofK (by kernel_rfl)
theorem ag67 : Aggr Tryz.prog 67 3 := ⟨fun _ => by kernel_rfl, fun _ => by kernel_rfl⟩
theorem ag71 : Aggr Tryz.prog 71 2 := ⟨fun _ => by kernel_rfl, fun _ => by kernel_rfl⟩
theorem fa67_0 : FA Tryz.prog 67 0 0 := fun _ _ => by kernel_rfl
theorem fa67_1 : FA Tryz.prog 67 1 1 := fun _ _ => by kernel_rfl
theorem fa67_2 : FA Tryz.prog 67 2 2 := fun _ _ => by kernel_rfl
theorem fa71_0 : FA Tryz.prog 71 0 0 := fun _ _ => by kernel_rfl
theorem fa71_1 : FA Tryz.prog 71 1 1 := fun _ _ => by kernel_rfl
theorem la157 : Lay Tryz.prog 157 ([.sl none 0 0]) [(0, 1)] := Lay.ofK ze157 (by kernel_rfl)
theorem la71 : Lay Tryz.prog 71 ([.i64 0, .i64 0]) [(0, 1), (1, 1)] := Lay.ofK ze71 (by kernel_rfl)
theorem sc27 : Scal Tryz.prog 27 := ⟨fun _ => by kernel_rfl, fun _ => by kernel_rfl⟩
theorem sc29 : Scal Tryz.prog 29 := ⟨fun _ => by kernel_rfl, fun _ => by kernel_rfl⟩
theorem sc3 : Scal Tryz.prog 3 := ⟨fun _ => by kernel_rfl, fun _ => by kernel_rfl⟩
theorem sc9 : Scal Tryz.prog 9 := ⟨fun _ => by kernel_rfl, fun _ => by kernel_rfl⟩
theorem sl27 : SlT Tryz.prog 27 5 1 1 := SlT.ofB (by kernel_rfl) rfl
theorem un121 : Tryz.prog.underlying 121 = some (.int .u64) := by kernel_rfl
theorem un27 : Tryz.prog.underlying 27 = some (.slice 5) := by kernel_rfl
theorem un3 : Tryz.prog.underlying 3 = some (.int .i64) := by kernel_rfl
theorem un40 : Tryz.prog.underlying 40 = some (.int .u32) := by kernel_rfl
theorem un5 : Tryz.prog.underlying 5 = some (.int .u8) := by kernel_rfl
theorem un9 : Tryz.prog.underlying 9 = some (.string) := by kernel_rfl
theorem wUint_c (g : Nat) (bs : List UInt8) (n : UInt64) (hb : bs.length < 2 ^ 39) :
    Tr Tryz.prog 165 [.ptr g 0, .u64 n] (fun o => True) ([Wr g bs]) (fun x H' => x = .tup [] ∧ H' = [Wr g (bs ++ uvar n)]) := by
  refine Tr_intro Tryz.func165 rfl rfl (fun c hR => ?_)
  refine C_seq ?_
  refine C_block ?_
  refine C_loop (γ := List UInt8 × UInt64) (fun p => UvI n p) (fun p => [(0, .ptr g 0), (1, .u64 p.2)]) (fun p => [Wr g (bs ++ p.1)]) (fun p => 10 - p.1.length) ([], n) ?hI0 (subL.spec ⟨rfl, rfl, trivial⟩) (by simp) ?_
  case hI0 => exact UvI.init n
  rintro p hI0
  have hl9 := hI0.len
  refine C_seq ?_
  refine C_seq ?_
  refine C_region ?_
  refine W_rd (rd_move rfl) rfl rfl rfl ?_
  refine W_rd (rd_bin rfl rfl rfl) rfl rfl rfl ?_
  refine W_nil ?_
  refine N_then ?_
  refine C_cond rfl (fun ht5 => ?_) (fun ht5 => ?_)
  ·
    refine C_skip ?_
    refine N_then ?_
    refine C_seq ?_
    refine C_block ?_
    refine C_region ?_
    refine W_rd (rd_move rfl) rfl rfl rfl ?_
    refine W_rd (rd_move rfl) rfl rfl rfl ?_
    refine W_rd (rd_conv un121 un5 rfl rfl) rfl rfl rfl ?_
    refine W_rd (rd_bin rfl rfl rfl) rfl rfl rfl ?_
    refine W_op rfl (op_call (wByte_c g (bs ++ p.1) (p.2.toUInt8 ||| 128) (by simp; omega)) Tryz.func171 rfl rfl rfl (pickR_spec (is := [0]) rfl) (fun _ _ _ => trivial) rfl ?_)
    rintro xt12 Ht12 ⟨rfl, rfl⟩
    refine W_nil ?_
    refine N_block ?_
    refine N_then ?_
    refine C_region ?_
    refine W_rd (rd_move rfl) rfl rfl rfl ?_
    refine W_rd (rd_shift rfl rfl rfl (.inr rfl) rfl (by omega)) rfl rfl rfl ?_
    refine W_rd (rd_assign rfl) rfl rfl rfl ?_
    refine W_nil ?_
    have h8 := hI0.more (by simpa using ht5)
    refine N_round (p.1 ++ [p.2.toUInt8 ||| 128], shr64 p.2 7) (hI0.step (by simpa using ht5)) (by simp; omega) (subL.spec ⟨rfl, rfl, trivial⟩) (by simp)
  ·
    refine C_exit ?_
    repeat (first | refine X_then ?_ | refine X_here ?_ | refine X_block rfl ?_)
    refine N_then ?_
    refine C_region ?_
    refine W_rd (rd_move rfl) rfl rfl rfl ?_
    refine W_rd (rd_move rfl) rfl rfl rfl ?_
    refine W_rd (rd_conv un121 un5 rfl rfl) rfl rfl rfl ?_
    refine W_op rfl (op_call (wByte_c g (bs ++ p.1) p.2.toUInt8 (by simp; omega)) Tryz.func171 rfl rfl rfl (pickR_spec (is := [0]) rfl) (fun _ _ _ => trivial) rfl ?_)
    rintro xt16 Ht16 ⟨rfl, rfl⟩
    refine W_nil ?_
    exact End0 [0] rfl rfl (by rw [List.append_assoc, hI0.done (by simpa using ht5)]) ⟨rfl, rfl⟩
theorem within_c (a b : Int) :
    Tr Tryz.prog 96 [.agg [.i64 a, .i64 b]] (fun o => True) ([]) (fun x H' => x = .agg [.i64 (min (max a 0) 1000), .i64 (min (max b 0) 1048576)] ∧ H' = []) := by
  refine Tr_intro Tryz.func96 rfl rfl (fun c hR => ?_)
  refine C_seq ?_
  refine C_region ?_
  refine W_op rfl (op_box rfl (by first | exact .inl rfl | exact .inr ⟨_, rfl⟩) rfl ?_)
  intro gt1
  refine W_op rfl (op_alloc ze71 rfl ?_)
  intro gt2
  refine W_nil ?_
  refine N_then ?_
  refine C_seq ?_
  refine C_region ?_
  refine W_rd (rd_fieldAddr fa71_0 rfl) rfl rfl rfl ?_
  first | refine W_op rfl (op_load 0 rfl rfl sc3 rfl rfl ?_) | refine W_op rfl (op_load 1 rfl rfl sc3 rfl rfl ?_) | refine W_op rfl (op_load 2 rfl rfl sc3 rfl rfl ?_) | refine W_op rfl (op_load 3 rfl rfl sc3 rfl rfl ?_) | refine W_op rfl (op_load 4 rfl rfl sc3 rfl rfl ?_) | refine W_op rfl (op_load 5 rfl rfl sc3 rfl rfl ?_) | refine W_op rfl (op_load 6 rfl rfl sc3 rfl rfl ?_) | refine W_op rfl (op_load 7 rfl rfl sc3 rfl rfl ?_)
  refine W_rd (rd_max rfl rfl) rfl rfl rfl ?_
  refine W_rd (rd_min rfl rfl) rfl rfl rfl ?_
  refine W_rd (rd_fieldAddr fa71_1 rfl) rfl rfl rfl ?_
  first | refine W_op rfl (op_load 0 rfl rfl sc3 rfl rfl ?_) | refine W_op rfl (op_load 1 rfl rfl sc3 rfl rfl ?_) | refine W_op rfl (op_load 2 rfl rfl sc3 rfl rfl ?_) | refine W_op rfl (op_load 3 rfl rfl sc3 rfl rfl ?_) | refine W_op rfl (op_load 4 rfl rfl sc3 rfl rfl ?_) | refine W_op rfl (op_load 5 rfl rfl sc3 rfl rfl ?_) | refine W_op rfl (op_load 6 rfl rfl sc3 rfl rfl ?_) | refine W_op rfl (op_load 7 rfl rfl sc3 rfl rfl ?_)
  refine W_rd (rd_max rfl rfl) rfl rfl rfl ?_
  refine W_rd (rd_min rfl rfl) rfl rfl rfl ?_
  refine W_rd (rd_build la71 rfl rfl rfl) rfl rfl rfl ?_
  first | refine W_op rfl (op_sts 0 rfl rfl rfl ag71 rfl rfl rfl rfl ?_) | refine W_op rfl (op_sts 1 rfl rfl rfl ag71 rfl rfl rfl rfl ?_) | refine W_op rfl (op_sts 2 rfl rfl rfl ag71 rfl rfl rfl rfl ?_) | refine W_op rfl (op_sts 3 rfl rfl rfl ag71 rfl rfl rfl rfl ?_) | refine W_op rfl (op_sts 4 rfl rfl rfl ag71 rfl rfl rfl rfl ?_) | refine W_op rfl (op_sts 5 rfl rfl rfl ag71 rfl rfl rfl rfl ?_) | refine W_op rfl (op_sts 6 rfl rfl rfl ag71 rfl rfl rfl rfl ?_) | refine W_op rfl (op_sts 7 rfl rfl rfl ag71 rfl rfl rfl rfl ?_)
  refine W_nil ?_
  refine N_then ?_
  refine C_ret ?_
  repeat (first | refine Rt_then ?_ | refine Rt_block ?_)
  exact RetC [] 0 rfl rfl rfl ag71 rfl rfl rfl rfl ⟨rfl, rfl⟩
theorem frameCheck_c (nm : List UInt8) (k : UInt8) (Ap : Option Addr) (n cp : Nat) :
    Tr Tryz.prog 186 [.agg [.str nm, .u8 k, .sl Ap n cp]] (fun o => True) ([]) (fun x H' => x = .i64 (frameChk nm k n) ∧ H' = []) := by
  refine Tr_intro Tryz.func186 rfl rfl (fun c hR => ?_)
  refine C_seq ?_
  refine C_region ?_
  refine W_op rfl (op_box rfl (by first | exact .inl rfl | exact .inr ⟨_, rfl⟩) rfl ?_)
  intro gt1
  refine W_rd (rd_assign rfl) rfl rfl rfl ?_
  refine W_nil ?_
  refine N_then ?_
  refine C_seq ?_
  refine C_block ?_
  refine C_seq ?_
  refine C_region ?_
  refine W_rd (rd_fieldAddr fa67_0 rfl) rfl rfl rfl ?_
  first | refine W_op rfl (op_load 0 rfl rfl sc9 rfl rfl ?_) | refine W_op rfl (op_load 1 rfl rfl sc9 rfl rfl ?_) | refine W_op rfl (op_load 2 rfl rfl sc9 rfl rfl ?_) | refine W_op rfl (op_load 3 rfl rfl sc9 rfl rfl ?_) | refine W_op rfl (op_load 4 rfl rfl sc9 rfl rfl ?_) | refine W_op rfl (op_load 5 rfl rfl sc9 rfl rfl ?_) | refine W_op rfl (op_load 6 rfl rfl sc9 rfl rfl ?_) | refine W_op rfl (op_load 7 rfl rfl sc9 rfl rfl ?_)
  refine W_rd (rd_slen un9 rfl) rfl rfl rfl ?_
  refine W_rd (rd_bin rfl rfl rfl) rfl rfl rfl ?_
  refine W_rd (rd_move rfl) rfl rfl rfl ?_
  refine W_split (dd := 8) rfl (fun ht8 => ?_) (fun ht8 => ?_)
  ·
    refine W_gf rfl rfl rfl (by first | exact .inl rfl | exact .inr rfl) rfl rfl ?_
    refine W_gf rfl rfl rfl (by first | exact .inl rfl | exact .inr rfl) rfl rfl ?_
    refine W_gf rfl rfl rfl (by first | exact .inl rfl | exact .inr rfl) rfl rfl ?_
    refine W_gf rfl rfl rfl (by first | exact .inl rfl | exact .inr rfl) rfl rfl ?_
    refine W_rd (rd_pick rfl rfl) rfl rfl rfl ?_
    refine W_rd (rd_assign rfl) rfl rfl rfl ?_
    refine W_nil ?_
    refine N_then ?_
    refine C_cond rfl (fun _ => ?_) (fun h => by cases h)
    refine C_seq ?_
    refine C_region ?_
    refine W_rd (rd_assign rfl) rfl rfl rfl ?_
    refine W_nil ?_
    refine N_then ?_
    refine C_ret ?_
    repeat (first | refine Rt_then ?_ | refine Rt_block ?_)
    refine Ret1 [] rfl rfl rfl rfl ⟨congrArg TV.i64 ?_, rfl⟩
    simp only [decide_eq_true_eq, decide_eq_false_iff_not, Bool.not_eq_true', Bool.not_eq_false'] at *
    unfold frameChk
    repeat' split
    all_goals first | rfl | omega | contradiction
  ·
    refine W_gt rfl rfl rfl (op_rd (rd_fieldAddr fa67_0 rfl) rfl rfl ?_)
    first | refine W_gt rfl rfl rfl (op_load 0 rfl rfl sc9 rfl rfl ?_) | refine W_gt rfl rfl rfl (op_load 1 rfl rfl sc9 rfl rfl ?_) | refine W_gt rfl rfl rfl (op_load 2 rfl rfl sc9 rfl rfl ?_) | refine W_gt rfl rfl rfl (op_load 3 rfl rfl sc9 rfl rfl ?_) | refine W_gt rfl rfl rfl (op_load 4 rfl rfl sc9 rfl rfl ?_) | refine W_gt rfl rfl rfl (op_load 5 rfl rfl sc9 rfl rfl ?_) | refine W_gt rfl rfl rfl (op_load 6 rfl rfl sc9 rfl rfl ?_) | refine W_gt rfl rfl rfl (op_load 7 rfl rfl sc9 rfl rfl ?_)
    refine W_gt rfl rfl rfl (op_rd (rd_slen un9 rfl) rfl rfl ?_)
    refine W_gt rfl rfl rfl (op_rd (rd_bin rfl rfl rfl) rfl rfl ?_)
    refine W_rd (rd_pick rfl rfl) rfl rfl rfl ?_
    refine W_rd (rd_assign rfl) rfl rfl rfl ?_
    refine W_nil ?_
    refine N_then ?_
    refine C_cond rfl (fun ht3 => ?_) (fun ht3 => ?_)
    ·
      refine C_seq ?_
      refine C_region ?_
      refine W_rd (rd_assign rfl) rfl rfl rfl ?_
      refine W_nil ?_
      refine N_then ?_
      refine C_ret ?_
      repeat (first | refine Rt_then ?_ | refine Rt_block ?_)
      refine Ret1 [] rfl rfl rfl rfl ⟨congrArg TV.i64 ?_, rfl⟩
      simp only [decide_eq_true_eq, decide_eq_false_iff_not, Bool.not_eq_true', Bool.not_eq_false'] at *
      unfold frameChk
      repeat' split
      all_goals first | rfl | omega | contradiction
    ·
      refine C_seq ?_
      refine C_region ?_
      refine W_rd (rd_fieldAddr fa67_1 rfl) rfl rfl rfl ?_
      first | refine W_op rfl (op_load 0 rfl rfl sc29 rfl rfl ?_) | refine W_op rfl (op_load 1 rfl rfl sc29 rfl rfl ?_) | refine W_op rfl (op_load 2 rfl rfl sc29 rfl rfl ?_) | refine W_op rfl (op_load 3 rfl rfl sc29 rfl rfl ?_) | refine W_op rfl (op_load 4 rfl rfl sc29 rfl rfl ?_) | refine W_op rfl (op_load 5 rfl rfl sc29 rfl rfl ?_) | refine W_op rfl (op_load 6 rfl rfl sc29 rfl rfl ?_) | refine W_op rfl (op_load 7 rfl rfl sc29 rfl rfl ?_)
      refine W_rd (rd_bin rfl rfl rfl) rfl rfl rfl ?_
      refine W_rd (rd_assign rfl) rfl rfl rfl ?_
      refine W_nil ?_
      refine N_then ?_
      refine C_cond rfl (fun ht14 => ?_) (fun ht14 => ?_)
      ·
        refine C_seq ?_
        refine C_region ?_
        refine W_rd (rd_assign rfl) rfl rfl rfl ?_
        refine W_nil ?_
        refine N_then ?_
        refine C_ret ?_
        repeat (first | refine Rt_then ?_ | refine Rt_block ?_)
        refine Ret1 [] rfl rfl rfl rfl ⟨congrArg TV.i64 ?_, rfl⟩
        simp only [decide_eq_true_eq, decide_eq_false_iff_not, Bool.not_eq_true', Bool.not_eq_false'] at *
        unfold frameChk
        repeat' split
        all_goals first | rfl | omega | contradiction
      ·
        refine C_seq ?_
        refine C_region ?_
        refine W_rd (rd_fieldAddr fa67_2 rfl) rfl rfl rfl ?_
        first | refine W_op rfl (op_load 0 rfl rfl sc27 rfl rfl ?_) | refine W_op rfl (op_load 1 rfl rfl sc27 rfl rfl ?_) | refine W_op rfl (op_load 2 rfl rfl sc27 rfl rfl ?_) | refine W_op rfl (op_load 3 rfl rfl sc27 rfl rfl ?_) | refine W_op rfl (op_load 4 rfl rfl sc27 rfl rfl ?_) | refine W_op rfl (op_load 5 rfl rfl sc27 rfl rfl ?_) | refine W_op rfl (op_load 6 rfl rfl sc27 rfl rfl ?_) | refine W_op rfl (op_load 7 rfl rfl sc27 rfl rfl ?_)
        refine W_rd (rd_len sl27.und rfl) rfl rfl rfl ?_
        refine W_rd (rd_bin rfl rfl rfl) rfl rfl rfl ?_
        refine W_rd (rd_assign rfl) rfl rfl rfl ?_
        refine W_nil ?_
        refine N_then ?_
        refine C_cond rfl (fun ht18 => ?_) (fun ht18 => ?_)
        ·
          refine C_seq ?_
          refine C_region ?_
          refine W_rd (rd_assign rfl) rfl rfl rfl ?_
          refine W_nil ?_
          refine N_then ?_
          refine C_ret ?_
          repeat (first | refine Rt_then ?_ | refine Rt_block ?_)
          refine Ret1 [] rfl rfl rfl rfl ⟨congrArg TV.i64 ?_, rfl⟩
          simp only [decide_eq_true_eq, decide_eq_false_iff_not, Bool.not_eq_true', Bool.not_eq_false'] at *
          unfold frameChk
          repeat' split
          all_goals first | rfl | omega | contradiction
        ·
          refine C_skip ?_
          refine N_block ?_
          refine N_then ?_
          refine C_seq ?_
          refine C_region ?_
          refine W_rd (rd_assign rfl) rfl rfl rfl ?_
          refine W_nil ?_
          refine N_then ?_
          refine C_ret ?_
          repeat (first | refine Rt_then ?_ | refine Rt_block ?_)
          refine Ret1 [] rfl rfl rfl rfl ⟨congrArg TV.i64 ?_, rfl⟩
          simp only [decide_eq_true_eq, decide_eq_false_iff_not, Bool.not_eq_true', Bool.not_eq_false'] at *
          unfold frameChk
          repeat' split
          all_goals first | rfl | omega | contradiction
theorem framePut_c (nm : List UInt8) (k : UInt8) (Ap : Option Addr) (cp : Nat) (pl : List UInt8) :
    Tr Tryz.prog 98 [.agg [.str nm, .u8 k, .sl Ap pl.length cp]] (fun o => RS o 1 Ap pl.length cp (pl.map .u8)) ([]) (fun x H' => (frameChk nm k pl.length = 0 ∧ ∃ A cp, x = .tup [.sl A (frameB nm k pl).length cp, .i64 0] ∧ H' = [Row 1 5 A (frameB nm k pl).length cp ((frameB nm k pl).map .u8)]) ∨ (frameChk nm k pl.length ≠ 0 ∧ x = .tup [.sl none 0 0, .i64 (frameChk nm k pl.length)] ∧ H' = [])) := by
  refine Tr_intro Tryz.func98 rfl rfl (fun c hR => ?_)
  refine C_seq ?_
  refine C_region ?_
  refine W_op rfl (op_box rfl (by first | exact .inl rfl | exact .inr ⟨_, rfl⟩) rfl ?_)
  intro gt1
  refine W_rd (rd_assign rfl) rfl rfl rfl ?_
  refine W_rd (rd_assign rfl) rfl rfl rfl ?_
  refine W_nil ?_
  refine N_then ?_
  refine C_seq ?_
  refine C_seq ?_
  refine C_region ?_
  first | refine W_op rfl (op_loads 0 rfl rfl ag67 rfl rfl rfl ?_) | refine W_op rfl (op_loads 1 rfl rfl ag67 rfl rfl rfl ?_) | refine W_op rfl (op_loads 2 rfl rfl ag67 rfl rfl rfl ?_) | refine W_op rfl (op_loads 3 rfl rfl ag67 rfl rfl rfl ?_) | refine W_op rfl (op_loads 4 rfl rfl ag67 rfl rfl rfl ?_) | refine W_op rfl (op_loads 5 rfl rfl ag67 rfl rfl rfl ?_) | refine W_op rfl (op_loads 6 rfl rfl ag67 rfl rfl rfl ?_) | refine W_op rfl (op_loads 7 rfl rfl ag67 rfl rfl rfl ?_)
  refine W_op rfl (op_call (frameCheck_c nm k Ap pl.length cp) Tryz.func186 rfl rfl rfl (pickR_spec (is := []) rfl) (fun _ _ _ => trivial) rfl ?_)
  rintro xt7 Ht7 ⟨rfl, rfl⟩
  refine W_rd (rd_assign rfl) rfl rfl rfl ?_
  refine W_nil ?_
  refine N_then ?_
  refine C_seq ?_
  refine C_region ?_
  refine W_rd (rd_move rfl) rfl rfl rfl ?_
  refine W_rd (rd_bin rfl rfl rfl) rfl rfl rfl ?_
  refine W_nil ?_
  refine N_then ?_
  refine C_cond rfl (fun ht9 => ?_) (fun ht9 => ?_)
  ·
    have hne : frameChk nm k pl.length ≠ 0 := by simpa using ht9
    refine C_seq ?_
    refine C_region ?_
    refine W_rd (rd_move rfl) rfl rfl rfl ?_
    refine W_rd (rd_assign rfl) rfl rfl rfl ?_
    refine W_rd (rd_assign rfl) rfl rfl rfl ?_
    refine W_nil ?_
    refine N_then ?_
    refine C_ret ?_
    repeat (first | refine Rt_then ?_ | refine Rt_block ?_)
    exact Ret2 [] rfl rfl rfl rfl rfl (.inr ⟨hne, rfl, rfl⟩)
  ·
    have h0 : frameChk nm k pl.length = 0 := by simpa using ht9
    obtain ⟨hn1, hn2, hk6, hp⟩ := frameChk_ok h0
    refine C_skip ?_
    refine N_then ?_
    refine C_seq ?_
    refine C_region ?_
    refine W_rd (rd_build la157 rfl rfl rfl) rfl rfl rfl ?_
    refine W_op rfl (op_box rfl (by first | exact .inl rfl | exact .inr ⟨_, rfl⟩) rfl ?_)
    intro gt12
    refine W_rd (rd_assign rfl) rfl rfl rfl ?_
    refine W_nil ?_
    refine N_then ?_
    refine C_seq ?_
    refine C_nil_row 1 5 ?_
    refine C_pack [1, 0] rfl (wr_mk (bs := []) rfl rfl) ?_
    refine C_region ?_
    refine W_rd (rd_move rfl) rfl rfl rfl ?_
    refine W_rd (rd_fieldAddr fa67_0 rfl) rfl rfl rfl ?_
    first | refine W_op rfl (op_load 0 rfl rfl sc9 rfl rfl ?_) | refine W_op rfl (op_load 1 rfl rfl sc9 rfl rfl ?_) | refine W_op rfl (op_load 2 rfl rfl sc9 rfl rfl ?_) | refine W_op rfl (op_load 3 rfl rfl sc9 rfl rfl ?_) | refine W_op rfl (op_load 4 rfl rfl sc9 rfl rfl ?_) | refine W_op rfl (op_load 5 rfl rfl sc9 rfl rfl ?_) | refine W_op rfl (op_load 6 rfl rfl sc9 rfl rfl ?_) | refine W_op rfl (op_load 7 rfl rfl sc9 rfl rfl ?_)
    refine W_rd (rd_slen un9 rfl) rfl rfl rfl ?_
    refine W_rd (rd_conv un3 un5 rfl rfl) rfl rfl rfl ?_
    refine W_op rfl (op_call (wByte_c gt12 [] (UInt8.ofInt (nm.length : Int)) (by simp)) Tryz.func171 rfl rfl rfl (pickR_spec (is := [0]) rfl) (fun _ _ _ => trivial) rfl ?_)
    rintro xt18 Ht18 ⟨rfl, rfl⟩
    refine W_nil ?_
    refine N_then ?_
    refine C_seq ?_
    refine C_region ?_
    refine W_rd (rd_move rfl) rfl rfl rfl ?_
    refine W_rd (rd_fieldAddr fa67_0 rfl) rfl rfl rfl ?_
    first | refine W_op rfl (op_load 0 rfl rfl sc9 rfl rfl ?_) | refine W_op rfl (op_load 1 rfl rfl sc9 rfl rfl ?_) | refine W_op rfl (op_load 2 rfl rfl sc9 rfl rfl ?_) | refine W_op rfl (op_load 3 rfl rfl sc9 rfl rfl ?_) | refine W_op rfl (op_load 4 rfl rfl sc9 rfl rfl ?_) | refine W_op rfl (op_load 5 rfl rfl sc9 rfl rfl ?_) | refine W_op rfl (op_load 6 rfl rfl sc9 rfl rfl ?_) | refine W_op rfl (op_load 7 rfl rfl sc9 rfl rfl ?_)
    refine W_op rfl (op_str_bytes un9 un27 un5 rfl (by simp only [maxLen]; omega) rfl ?_)
    intro At22 ct22 hAt22
    refine W_op rfl (op_call (wPut_c gt12 _ nm At22 ct22 (by simp; omega)) Tryz.func97 rfl rfl rfl (pickR_spec (is := [1]) rfl) (fun o hle hsub => hsub.row 0 rfl) rfl ?_)
    rintro xt23 Ht23 ⟨rfl, rfl⟩
    refine W_nil ?_
    refine N_then ?_
    refine C_seq ?_
    refine C_region ?_
    refine W_rd (rd_move rfl) rfl rfl rfl ?_
    refine W_rd (rd_fieldAddr fa67_1 rfl) rfl rfl rfl ?_
    first | refine W_op rfl (op_load 0 rfl rfl sc29 rfl rfl ?_) | refine W_op rfl (op_load 1 rfl rfl sc29 rfl rfl ?_) | refine W_op rfl (op_load 2 rfl rfl sc29 rfl rfl ?_) | refine W_op rfl (op_load 3 rfl rfl sc29 rfl rfl ?_) | refine W_op rfl (op_load 4 rfl rfl sc29 rfl rfl ?_) | refine W_op rfl (op_load 5 rfl rfl sc29 rfl rfl ?_) | refine W_op rfl (op_load 6 rfl rfl sc29 rfl rfl ?_) | refine W_op rfl (op_load 7 rfl rfl sc29 rfl rfl ?_)
    refine W_op rfl (op_call (wByte_c gt12 _ k (by simp; omega)) Tryz.func171 rfl rfl rfl (pickR_spec (is := [0]) rfl) (fun _ _ _ => trivial) rfl ?_)
    rintro xt27 Ht27 ⟨rfl, rfl⟩
    refine W_nil ?_
    refine N_then ?_
    refine C_seq ?_
    refine C_region ?_
    refine W_rd (rd_move rfl) rfl rfl rfl ?_
    refine W_rd (rd_fieldAddr fa67_2 rfl) rfl rfl rfl ?_
    first | refine W_op rfl (op_load 0 rfl rfl sc27 rfl rfl ?_) | refine W_op rfl (op_load 1 rfl rfl sc27 rfl rfl ?_) | refine W_op rfl (op_load 2 rfl rfl sc27 rfl rfl ?_) | refine W_op rfl (op_load 3 rfl rfl sc27 rfl rfl ?_) | refine W_op rfl (op_load 4 rfl rfl sc27 rfl rfl ?_) | refine W_op rfl (op_load 5 rfl rfl sc27 rfl rfl ?_) | refine W_op rfl (op_load 6 rfl rfl sc27 rfl rfl ?_) | refine W_op rfl (op_load 7 rfl rfl sc27 rfl rfl ?_)
    refine W_rd (rd_len sl27.und rfl) rfl rfl rfl ?_
    refine W_rd (rd_conv un3 un40 rfl rfl) rfl rfl rfl ?_
    refine W_op rfl (op_call (wWord_c gt12 _ (UInt32.ofInt (pl.length : Int)) (by simp; omega)) Tryz.func101 rfl rfl rfl (pickR_spec (is := [0]) rfl) (fun _ _ _ => trivial) rfl ?_)
    rintro xt33 Ht33 ⟨rfl, rfl⟩
    refine W_nil ?_
    refine N_then ?_
    refine C_seq ?_
    refine C_draw (by kernel_rfl) none _ _ (pickR_spec (is := [0]) rfl) ?_
    intro c9 hle9 hsub9 back9
    have hB := hsub9.blk 1 rfl
    refine D_take (i := 0) rfl (by kernel_rfl) (rd_move rfl) rfl rfl rfl ?_
    refine D_take (i := 3) rfl (by kernel_rfl) (rd_fieldAddr fa67_2 rfl) rfl rfl rfl ?_
    first | refine D_take (i := 4) rfl (by kernel_rfl) (rd_load rfl hB sc27 rfl) rfl rfl rfl ?_
    refine D_one (i := 1) (by kernel_rfl) rfl rfl (op_call (wBytes_c gt12 (frameHead nm k pl.length) (by rw [frameHead_length]; omega)) Tryz.func88 rfl rfl rfl (pickR_spec (is := [0]) rfl) (fun _ _ _ => trivial) rfl ?_)
    rintro xt35 Ht35 ⟨A1, c1, rfl, rfl⟩
    refine D_one (i := 2) (by kernel_rfl) rfl rfl (op_call (crcPut_c A1 c1 (frameHead nm k pl.length) (by rw [frameHead_length]; omega)) Tryz.func102 rfl rfl rfl (pickR_spec (is := []) rfl) (fun o hle hsub => hsub.row 0 rfl) rfl ?_)
    rintro xt36 Ht36 ⟨A2, c2, rfl, rfl⟩
    refine D_one (i := 5) (by kernel_rfl) rfl rfl (op_call (crcPut_c Ap cp pl (by omega)) Tryz.func102 rfl rfl rfl (pickR_spec (is := []) rfl) (fun o hle hsub => hR.mono (Hp.le_trans hle9.2 hle)) rfl ?_)
    rintro xt39 Ht39 ⟨A3, c3, rfl, rfl⟩
    refine D_one (i := 6) (by kernel_rfl) rfl rfl (op_append 1 sl27 rfl rfl rfl (Src.ofRow 0 rfl (by simp)) (one_u8 _) (by simp only [frameHead_length, crcB_length]; omega) rfl ?_)
    intro At40 ct40 Ht40 hHt40; obtain rfl := Option.some.inj hHt40
    refine D_take (i := 7) rfl (by kernel_rfl) (rd_assign rfl) rfl rfl rfl ?_
    refine D_take (i := 8) rfl (by kernel_rfl) (rd_assign rfl) rfl rfl rfl ?_
    refine D_done (by kernel_rfl) back9 ?_
    refine N_then ?_
    refine C_ret ?_
    repeat (first | refine Rt_then ?_ | refine Rt_block ?_)
    exact Ret2 [1] rfl rfl rfl rfl rfl (.inl ⟨h0, At40, ct40, by simp [frameB], by simp [frameB]⟩)
end Go.Hb.Wk3
