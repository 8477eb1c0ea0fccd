/- A part of the proofs of this seat: rules of a logic of owned and of lent memory, what functions compute, or their walks. -/
import Derived.Test.YtclediplagkblaaGreatCore12
import Derived.Test.YtclediplagkblaaGreatProg
import Derived.Test.YtclediplagkblaaGreatSp1
set_option linter.unusedVariables false
set_option linter.unusedSimpArgs false
namespace Go.Hb.Wk1
open Go Go.Proofs
theorem ze365 : Zero Tryz.prog 365 (List.replicate 256 (.u32 0)) := Zero.ofK (by kernel_rfl)
theorem ly365 : ALay Tryz.prog 365 (List.replicate 256 (.u32 0)) 1 := ⟨ze365, ⟨256, 40, by kernel_rfl, fun _ => by kernel_rfl⟩⟩
theorem sc40 : Scal Tryz.prog 40 := ⟨fun _ => by kernel_rfl, fun _ => by kernel_rfl⟩
theorem sc5 : Scal Tryz.prog 5 := ⟨fun _ => by kernel_rfl, fun _ => by kernel_rfl⟩
theorem sl27 : SlT Tryz.prog 27 5 1 1 := SlT.ofB (by kernel_rfl) rfl
theorem un3 : Tryz.prog.underlying 3 = some (.int .i64) := by kernel_rfl
theorem un365 : Tryz.prog.underlying 365 = some (.array 256 40) := by kernel_rfl
theorem un40 : Tryz.prog.underlying 40 = some (.int .u32) := by kernel_rfl
theorem un5 : Tryz.prog.underlying 5 = some (.int .u8) := by kernel_rfl
theorem crcof_c  :
    Tr Tryz.prog 252 [] (fun o => True) ([]) (fun x H' => ∃ g, x = .ptr g 0 ∧ H' = [Blk g 365 crcTabTV]) := by
  refine Tr_intro Tryz.func252 rfl rfl (fun c hR => ?_)
  refine C_seq ?_
  refine C_region ?_
  refine W_rd (rd_assign rfl) rfl rfl rfl ?_
  refine W_nil ?_
  refine N_then ?_
  refine C_seq ?_
  refine C_region ?_
  refine W_rd (rd_abuild ly365 rfl rfl rfl) rfl rfl rfl ?_
  refine W_op rfl (op_box rfl (by first | exact .inl rfl | exact .inr ⟨_, rfl⟩) rfl ?_)
  intro gt5
  refine W_rd (rd_assign rfl) rfl rfl rfl ?_
  refine W_nil ?_
  refine N_then ?_
  refine C_seq ?_
  refine C_seq ?_
  refine C_region ?_
  refine W_rd (rd_move rfl) rfl rfl rfl ?_
  refine W_nil ?_
  refine N_then ?_
  refine C_block ?_
  refine C_loop (γ := Nat) (fun k => k ≤ 256) (fun k => [(1, .ptr gt5 0), (6, .i64 (k : Int))]) (fun k => [Blk gt5 365 (crcPart k)]) (fun k => 256 - k) 0 ?hI0 (subL.spec ⟨rfl, rfl, trivial⟩) (by rw [crcPart_zero]; exact List.Perm.refl _) ?_
  case hI0 => exact Nat.zero_le _
  rintro k hI0
  refine C_seq ?_
  refine C_region ?_
  refine W_rd (rd_bin rfl rfl rfl) rfl rfl rfl ?_
  refine W_nil ?_
  refine N_then ?_
  refine C_seq ?_
  refine C_cond rfl (fun ht7 => ?_) (fun ht7 => ?_)
  ·
    refine C_skip ?_
    refine N_then ?_
    refine C_seq ?_
    refine C_block ?_
    refine C_seq ?_
    have hk : k < 256 := (by simp at ht7; omega)
    refine C_region ?_
    refine W_rd (rd_move rfl) rfl rfl rfl ?_
    refine W_rd (rd_assign rfl) rfl rfl rfl ?_
    refine W_nil ?_
    refine N_then ?_
    refine C_seq ?_
    refine C_region ?_
    refine W_rd (rd_move rfl) rfl rfl rfl ?_
    refine W_rd (rd_conv un3 un40 rfl rfl) rfl rfl rfl ?_
    refine W_rd (rd_assign rfl) rfl rfl rfl ?_
    refine W_nil ?_
    refine N_then ?_
    refine C_seq ?_
    refine C_seq ?_
    refine C_region ?_
    refine W_rd (rd_move rfl) rfl rfl rfl ?_
    refine W_nil ?_
    refine N_then ?_
    refine C_block ?_
    refine C_loop (γ := Nat) (fun j => j ≤ 8) (fun j => [(1, .ptr gt5 0), (2, .i64 (k : Int)), (3, .u32 (crcBits j (UInt32.ofInt (k : Int)))), (6, .i64 (k : Int)), (11, .i64 (j : Int))]) (fun j => [Blk gt5 365 (crcPart k)]) (fun j => 8 - j) 0 ?hI2 (subL.spec ⟨rfl, rfl, rfl, rfl, rfl, trivial⟩) (List.Perm.refl _) ?_
    case hI2 => exact Nat.zero_le _
    rintro j hI2
    refine C_seq ?_
    refine C_region ?_
    refine W_rd (rd_bin rfl rfl rfl) rfl rfl rfl ?_
    refine W_nil ?_
    refine N_then ?_
    refine C_seq ?_
    refine C_cond rfl (fun ht12 => ?_) (fun ht12 => ?_)
    ·
      refine C_skip ?_
      refine N_then ?_
      refine C_seq ?_
      refine C_block ?_
      have hj : j < 8 := (by simp at ht12; omega)
      refine C_region ?_
      refine W_rd (rd_move rfl) rfl rfl rfl ?_
      refine W_rd (rd_shift rfl rfl rfl (.inr rfl) rfl (by omega)) rfl rfl rfl ?_
      refine W_rd (rd_move rfl) rfl rfl rfl ?_
      refine W_rd (rd_bin rfl rfl rfl) rfl rfl rfl ?_
      refine W_rd (rd_un rfl rfl) rfl rfl rfl ?_
      refine W_rd (rd_bin rfl rfl rfl) rfl rfl rfl ?_
      refine W_rd (rd_bin rfl rfl rfl) rfl rfl rfl ?_
      refine W_rd (rd_assign rfl) rfl rfl rfl ?_
      refine W_nil ?_
      refine N_block ?_
      refine N_then ?_
      refine C_region ?_
      refine W_rd (rd_iadd rfl rfl (by omega)) rfl rfl rfl ?_
      refine W_rd (rd_move rfl) rfl rfl rfl ?_
      refine W_nil ?_
      refine N_round (j + 1) (by omega) (by omega) (subL.spec ⟨rfl, rfl, rfl, rfl, rfl, trivial⟩) (List.Perm.refl _)
    ·
      refine C_exit ?_
      repeat (first | refine X_then ?_ | refine X_here ?_ | refine X_block rfl ?_)
      refine N_then ?_
      obtain rfl : j = 8 := (by simp at ht12; omega)
      refine C_region ?_
      refine W_rd (rd_move rfl) rfl rfl rfl ?_
      refine W_rd (rd_move rfl) rfl rfl rfl ?_
      refine W_rd (rd_move rfl) rfl rfl rfl ?_
      refine W_rd (rd_nilCheck rfl) rfl rfl rfl ?_
      refine W_rd (rd_aindexN un365 sc40 rfl rfl (by omega)) rfl rfl rfl ?_
      refine W_op rfl (op_store 0 rfl rfl rfl sc40 rfl (y := .u32 0) (by simpa using crcPart_get k hk) rfl ?_)
      refine W_nil ?_
      refine N_block ?_
      refine N_then ?_
      refine C_region ?_
      refine W_rd (rd_iadd rfl rfl (by omega)) rfl rfl rfl ?_
      refine W_rd (rd_move rfl) rfl rfl rfl ?_
      refine W_nil ?_
      refine N_round (k + 1) (by omega) (by omega) (subL.spec ⟨rfl, rfl, trivial⟩) (by rw [crcPart_succ k hk])
  ·
    refine C_exit ?_
    repeat (first | refine X_then ?_ | refine X_here ?_ | refine X_block rfl ?_)
    refine N_then ?_
    refine C_seq ?_
    refine C_region ?_
    refine W_rd (rd_move rfl) rfl rfl rfl ?_
    refine W_rd (rd_assign rfl) rfl rfl rfl ?_
    refine W_nil ?_
    refine N_then ?_
    refine C_ret ?_
    repeat (first | refine Rt_then ?_ | refine Rt_block ?_)
    refine Ret1 [0] rfl rfl rfl rfl ⟨gt5, rfl, ?_⟩
    obtain rfl : k = 256 := (by simp at ht7; omega)
    rw [crcPart_all]
theorem crcSum_c (A : Option Addr) (cp : Nat) (bs : List UInt8) :
    Tr Tryz.prog 188 [.sl A bs.length cp] (fun o => RS o 1 A bs.length cp (bs.map .u8)) ([]) (fun x H' => x = .u32 (crcSum bs) ∧ H' = []) := by
  refine Tr_intro Tryz.func188 rfl rfl (fun c hR => ?_)
  refine C_seq ?_
  refine C_region ?_
  refine W_rd (rd_assign rfl) rfl rfl rfl ?_
  refine W_nil ?_
  refine N_then ?_
  refine C_seq ?_
  refine C_region ?_
  refine W_op rfl (op_call (crcof_c) Tryz.func252 rfl rfl rfl (pickR_spec (is := []) rfl) (fun _ _ _ => trivial) rfl ?_)
  rintro xt7 Ht7 ⟨g, rfl, rfl⟩
  refine W_rd (rd_assign rfl) rfl rfl rfl ?_
  refine W_nil ?_
  refine N_then ?_
  refine C_seq ?_
  refine C_region ?_
  refine W_rd (rd_assign rfl) rfl rfl rfl ?_
  refine W_nil ?_
  refine N_then ?_
  refine C_seq ?_
  refine C_seq ?_
  refine C_region ?_
  refine W_rd (rd_move rfl) rfl rfl rfl ?_
  refine W_rd (rd_len sl27.und rfl) rfl rfl rfl ?_
  refine W_rd (rd_move rfl) rfl rfl rfl ?_
  refine W_nil ?_
  refine N_then ?_
  refine C_block ?_
  refine C_loop (γ := Nat) (fun k => k ≤ bs.length) (fun k => [(3, .ptr g 0), (4, .u32 (crcFold (bs.take k))), (8, .sl A bs.length cp), (9, .i64 (bs.length : Int)), (10, .i64 (k : Int))]) (fun k => [Blk g 365 crcTabTV]) (fun k => bs.length - k) 0 ?hI0 (subL.spec ⟨rfl, rfl, rfl, rfl, rfl, trivial⟩) (List.Perm.refl _) ?_
  case hI0 => exact Nat.zero_le _
  rintro k hI0
  refine C_seq ?_
  refine C_region ?_
  refine W_rd (rd_bin rfl rfl rfl) rfl rfl rfl ?_
  refine W_nil ?_
  refine N_then ?_
  refine C_seq ?_
  refine C_cond rfl (fun ht11 => ?_) (fun ht11 => ?_)
  ·
    refine C_skip ?_
    refine N_then ?_
    refine C_seq ?_
    refine C_block ?_
    refine C_seq ?_
    have hk : k < bs.length := by simpa using ht11
    obtain ⟨b, hb⟩ : ∃ b, bs[k]? = some b := ⟨bs[k], by simp [hk]⟩
    have h63 := hR.le63
    refine C_region ?_
    refine W_rd (rd_indexN1 sl27 hR rfl rfl (by omega)) rfl rfl rfl ?_
    refine W_rd (rd_load_el hR rfl sc5 (x := .u8 b) (by simp [hb])) rfl rfl rfl ?_
    refine W_rd (rd_assign rfl) rfl rfl rfl ?_
    refine W_nil ?_
    refine N_then ?_
    refine C_region ?_
    refine W_rd (rd_move rfl) rfl rfl rfl ?_
    refine W_rd (rd_shift rfl rfl rfl (.inr rfl) rfl (by omega)) rfl rfl rfl ?_
    refine W_rd (rd_move rfl) rfl rfl rfl ?_
    refine W_rd (rd_move rfl) rfl rfl rfl ?_
    refine W_rd (rd_conv un40 un5 rfl rfl) rfl rfl rfl ?_
    refine W_rd (rd_move rfl) rfl rfl rfl ?_
    refine W_rd (rd_bin rfl rfl rfl) rfl rfl rfl ?_
    refine W_rd (rd_nilCheck rfl) rfl rfl rfl ?_
    refine W_rd (rd_aindex un365 sc40.sz rfl rfl rfl ⟨by omega, crc_ix _ _⟩) rfl rfl rfl ?_
    refine W_op rfl (op_load 0 rfl rfl sc40 (crcTab_get _) rfl ?_)
    refine W_rd (rd_bin rfl rfl rfl) rfl rfl rfl ?_
    refine W_rd (rd_assign rfl) rfl rfl rfl ?_
    refine W_nil ?_
    refine N_block ?_
    refine N_then ?_
    refine C_region ?_
    refine W_rd (rd_iadd rfl rfl (by omega)) rfl rfl rfl ?_
    refine W_rd (rd_move rfl) rfl rfl rfl ?_
    refine W_nil ?_
    refine N_round (k + 1) (by omega) (by omega) (subL.spec ⟨rfl, by rw [List.take_add_one, hb]; exact congrArg (fun t => some (TV.u32 t)) (crcFold_snoc _ b).symm, rfl, rfl, rfl, trivial⟩) (List.Perm.refl _)
  ·
    refine C_exit ?_
    repeat (first | refine X_then ?_ | refine X_here ?_ | refine X_block rfl ?_)
    refine N_then ?_
    refine C_seq ?_
    obtain rfl : k = bs.length := (by simp at ht11; omega)
    refine C_region ?_
    refine W_rd (rd_move rfl) rfl rfl rfl ?_
    refine W_rd (rd_un rfl rfl) rfl rfl rfl ?_
    refine W_rd (rd_assign rfl) rfl rfl rfl ?_
    refine W_nil ?_
    refine N_then ?_
    refine C_ret ?_
    repeat (first | refine Rt_then ?_ | refine Rt_block ?_)
    refine Ret1 [] rfl rfl rfl rfl ⟨?_, rfl⟩
    simp [crcSum]
theorem crcSum_n {n : Nat} (A : Option Addr) (cp : Nat) (bs : List UInt8) (hn : n = bs.length) : Tr Tryz.prog 188 [.sl A n cp] (fun o => RS o 1 A n cp (bs.map .u8)) [] (fun x H' => x = .u32 (crcSum bs) ∧ H' = []) := by
  subst hn; exact crcSum_c A cp bs
end Go.Hb.Wk1
