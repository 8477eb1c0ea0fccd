/- A part of the proofs of this seat: rules of a logic of owned and of lent memory, what functions compute, or their walks. -/
import Derived.Test.YtclediplagkblaaGreatCore12
import Derived.Test.YtclediplagkblaaGreatProg
import Derived.Test.YtclediplagkblaaGreatSp2
import Derived.Test.YtclediplagkblaaGreatWk1
set_option linter.unusedVariables false
set_option linter.unusedSimpArgs false
namespace Go.Hb.Wk2
open Go Go.Proofs
open Go.Hb.Wk1
theorem ze5 : Zero Tryz.prog 5 ([.u8 0]) := Zero.ofK (by kernel_rfl)
theorem fa157_0 : FA Tryz.prog 157 0 0 := fun _ _ => by kernel_rfl
theorem sc27 : Scal Tryz.prog 27 := ⟨fun _ => by kernel_rfl, fun _ => by kernel_rfl⟩
theorem sl27 : SlT Tryz.prog 27 5 1 1 := SlT.ofB (by kernel_rfl) rfl
theorem un155 : Tryz.prog.underlying 155 = some (.pointer 157) := by kernel_rfl
theorem un40 : Tryz.prog.underlying 40 = some (.int .u32) := by kernel_rfl
theorem un5 : Tryz.prog.underlying 5 = some (.int .u8) := by kernel_rfl
theorem wByte_c (g : Nat) (bs : List UInt8) (b : UInt8) (hb : bs.length < 2 ^ 40) :
    Tr Tryz.prog 171 [.ptr g 0, .u8 b] (fun o => True) ([Wr g bs]) (fun x H' => x = .tup [] ∧ H' = [Wr g (bs ++ [b])]) := by
  refine Tr_intro Tryz.func171 rfl rfl (fun c hR => ?_)
  refine C_openWr [0] rfl ?_
  intro A cp
  refine C_seq ?_
  refine C_region ?_
  refine W_rd (rd_move rfl) rfl rfl rfl ?_
  first | refine W_rd (rd_ptr_ne rfl rfl un155) rfl rfl rfl ?_ | refine W_rd (rd_nil_ne rfl rfl un155) rfl rfl rfl ?_
  refine W_nil ?_
  refine N_then ?_
  refine C_cond rfl (fun ht5 => ?_) (fun h => by first | (cases h; done) | (simp at h; done) | (simp at h; omega))
  refine C_region ?_
  refine W_rd (rd_move rfl) rfl rfl rfl ?_
  refine W_rd (rd_move rfl) rfl rfl rfl ?_
  refine W_rd (rd_nilCheck rfl) rfl rfl rfl ?_
  refine W_rd (rd_fieldAddr fa157_0 rfl) rfl rfl rfl ?_
  first | refine W_op rfl (op_load 0 rfl rfl sc27 rfl rfl ?_) | refine W_op rfl (op_load 1 rfl rfl sc27 rfl rfl ?_) | refine W_op rfl (op_load 2 rfl rfl sc27 rfl rfl ?_) | refine W_op rfl (op_load 3 rfl rfl sc27 rfl rfl ?_) | refine W_op rfl (op_load 4 rfl rfl sc27 rfl rfl ?_) | refine W_op rfl (op_load 5 rfl rfl sc27 rfl rfl ?_) | refine W_op rfl (op_load 6 rfl rfl sc27 rfl rfl ?_) | refine W_op rfl (op_load 7 rfl rfl sc27 rfl rfl ?_)
  refine W_rd (rd_move rfl) rfl rfl rfl ?_
  refine W_op rfl (op_slice sl27 ze5 rfl rfl rfl rfl rfl rfl (by omega) rfl ?_)
  intro At12 hAt12
  refine W_op rfl (op_append 2 sl27 rfl rfl rfl (Src.ofRow 0 rfl rfl) rfl (by omega) rfl ?_)
  intro At13 ct13 Ht13 hHt13; obtain rfl := Option.some.inj hHt13
  refine W_rd (rd_nilCheck rfl) rfl rfl rfl ?_
  refine W_rd (rd_fieldAddr fa157_0 rfl) rfl rfl rfl ?_
  first | refine W_op rfl (op_st 0 rfl rfl rfl sc27 rfl rfl rfl ?_) | refine W_op rfl (op_st 1 rfl rfl rfl sc27 rfl rfl rfl ?_) | refine W_op rfl (op_st 2 rfl rfl rfl sc27 rfl rfl rfl ?_) | refine W_op rfl (op_st 3 rfl rfl rfl sc27 rfl rfl rfl ?_) | refine W_op rfl (op_st 4 rfl rfl rfl sc27 rfl rfl rfl ?_) | refine W_op rfl (op_st 5 rfl rfl rfl sc27 rfl rfl rfl ?_) | refine W_op rfl (op_st 6 rfl rfl rfl sc27 rfl rfl rfl ?_) | refine W_op rfl (op_st 7 rfl rfl rfl sc27 rfl rfl rfl ?_)
  refine W_nil ?_
  refine N_pack [1, 1] rfl (wr_mk (bs := bs ++ [b]) (by simp) (by simp)) ?_
  exact End0 [0] rfl rfl rfl ⟨rfl, rfl⟩
theorem wPut_c (g : Nat) (bs xs : List UInt8) (A' : Option Addr) (cp' : Nat) (hb : bs.length + xs.length < 2 ^ 41) :
    Tr Tryz.prog 97 [.ptr g 0, .sl A' xs.length cp'] (fun o => RS o 1 A' xs.length cp' (xs.map .u8)) ([Wr g bs]) (fun x H' => x = .tup [] ∧ H' = [Wr g (bs ++ xs)]) := by
  refine Tr_intro Tryz.func97 rfl rfl (fun c hR => ?_)
  refine C_openWr [0] rfl ?_
  intro A cp
  refine C_seq ?_
  refine C_region ?_
  refine W_rd (rd_move rfl) rfl rfl rfl ?_
  first | refine W_rd (rd_ptr_ne rfl rfl un155) rfl rfl rfl ?_ | refine W_rd (rd_nil_ne rfl rfl un155) rfl rfl rfl ?_
  refine W_nil ?_
  refine N_then ?_
  refine C_cond rfl (fun ht5 => ?_) (fun h => by first | (cases h; done) | (simp at h; done) | (simp at h; omega))
  refine C_region ?_
  refine W_rd (rd_move rfl) rfl rfl rfl ?_
  refine W_rd (rd_move rfl) rfl rfl rfl ?_
  refine W_rd (rd_nilCheck rfl) rfl rfl rfl ?_
  refine W_rd (rd_fieldAddr fa157_0 rfl) rfl rfl rfl ?_
  first | refine W_op rfl (op_load 0 rfl rfl sc27 rfl rfl ?_) | refine W_op rfl (op_load 1 rfl rfl sc27 rfl rfl ?_) | refine W_op rfl (op_load 2 rfl rfl sc27 rfl rfl ?_) | refine W_op rfl (op_load 3 rfl rfl sc27 rfl rfl ?_) | refine W_op rfl (op_load 4 rfl rfl sc27 rfl rfl ?_) | refine W_op rfl (op_load 5 rfl rfl sc27 rfl rfl ?_) | refine W_op rfl (op_load 6 rfl rfl sc27 rfl rfl ?_) | refine W_op rfl (op_load 7 rfl rfl sc27 rfl rfl ?_)
  refine W_rd (rd_move rfl) rfl rfl rfl ?_
  refine W_op rfl (op_append 1 sl27 rfl rfl rfl (Src.ofRS hR) (one_u8 _) (by omega) rfl ?_)
  intro At12 ct12 Ht12 hHt12; obtain rfl := Option.some.inj hHt12
  refine W_rd (rd_nilCheck rfl) rfl rfl rfl ?_
  refine W_rd (rd_fieldAddr fa157_0 rfl) rfl rfl rfl ?_
  first | refine W_op rfl (op_st 0 rfl rfl rfl sc27 rfl rfl rfl ?_) | refine W_op rfl (op_st 1 rfl rfl rfl sc27 rfl rfl rfl ?_) | refine W_op rfl (op_st 2 rfl rfl rfl sc27 rfl rfl rfl ?_) | refine W_op rfl (op_st 3 rfl rfl rfl sc27 rfl rfl rfl ?_) | refine W_op rfl (op_st 4 rfl rfl rfl sc27 rfl rfl rfl ?_) | refine W_op rfl (op_st 5 rfl rfl rfl sc27 rfl rfl rfl ?_) | refine W_op rfl (op_st 6 rfl rfl rfl sc27 rfl rfl rfl ?_) | refine W_op rfl (op_st 7 rfl rfl rfl sc27 rfl rfl rfl ?_)
  refine W_nil ?_
  refine N_pack [0, 0] rfl (wr_mk (bs := bs ++ xs) (by simp) (by simp)) ?_
  exact End0 [0] rfl rfl rfl ⟨rfl, rfl⟩
theorem wWord_c (g : Nat) (bs : List UInt8) (n : UInt32) (hb : bs.length < 2 ^ 40) :
    Tr Tryz.prog 101 [.ptr g 0, .u32 n] (fun o => True) ([Wr g bs]) (fun x H' => x = .tup [] ∧ H' = [Wr g (bs ++ wordB n)]) := by
  refine Tr_intro Tryz.func101 rfl rfl (fun c hR => ?_)
  refine C_region ?_
  refine W_rd (rd_move rfl) rfl rfl rfl ?_
  refine W_rd (rd_move rfl) rfl rfl rfl ?_
  refine W_rd (rd_conv un40 un5 rfl rfl) rfl rfl rfl ?_
  refine W_rd (rd_move rfl) rfl rfl rfl ?_
  refine W_rd (rd_shift rfl rfl rfl (.inr rfl) rfl (by omega)) rfl rfl rfl ?_
  refine W_rd (rd_conv un40 un5 rfl rfl) rfl rfl rfl ?_
  refine W_rd (rd_move rfl) rfl rfl rfl ?_
  refine W_rd (rd_shift rfl rfl rfl (.inr rfl) rfl (by omega)) rfl rfl rfl ?_
  refine W_rd (rd_conv un40 un5 rfl rfl) rfl rfl rfl ?_
  refine W_rd (rd_move rfl) rfl rfl rfl ?_
  refine W_rd (rd_shift rfl rfl rfl (.inr rfl) rfl (by omega)) rfl rfl rfl ?_
  refine W_rd (rd_conv un40 un5 rfl rfl) rfl rfl rfl ?_
  refine W_op rfl (op_slice sl27 ze5 rfl rfl rfl rfl rfl rfl (by omega) rfl ?_)
  intro At16 hAt16
  refine W_op rfl (op_call (wPut_c g bs (wordB n) At16 4 (by simp [wordB_length]; omega)) Tryz.func97 rfl rfl rfl (pickR_spec (is := [1]) rfl) (fun o hle hsub => hsub.row 0 rfl) rfl ?_)
  rintro xt17 Ht17 ⟨rfl, rfl⟩
  refine W_nil ?_
  exact End0 [0] rfl rfl rfl ⟨rfl, rfl⟩
theorem wLen_c (g : Nat) (bs : List UInt8) :
    Tr Tryz.prog 99 [.ptr g 0] (fun o => True) ([Wr g bs]) (fun x H' => x = .i64 (bs.length : Int) ∧ H' = [Wr g bs]) := by
  refine Tr_intro Tryz.func99 rfl rfl (fun c hR => ?_)
  refine C_openWr [0] rfl ?_
  intro A cp
  refine C_seq ?_
  refine C_region ?_
  refine W_rd (rd_assign rfl) rfl rfl rfl ?_
  refine W_nil ?_
  refine N_then ?_
  refine C_seq ?_
  refine C_seq ?_
  refine C_region ?_
  refine W_rd (rd_move rfl) rfl rfl rfl ?_
  first | refine W_rd (rd_ptr_eq rfl rfl un155) rfl rfl rfl ?_ | refine W_rd (rd_nil_eq rfl rfl un155) rfl rfl rfl ?_
  refine W_nil ?_
  refine N_then ?_
  refine C_cond rfl (fun h => by first | (cases h; done) | (simp at h; done) | (simp at h; omega)) (fun ht4 => ?_)
  refine C_skip ?_
  refine N_then ?_
  refine C_seq ?_
  refine C_region ?_
  refine W_rd (rd_move rfl) rfl rfl rfl ?_
  refine W_rd (rd_nilCheck rfl) rfl rfl rfl ?_
  refine W_rd (rd_fieldAddr fa157_0 rfl) rfl rfl rfl ?_
  first | refine W_op rfl (op_load 0 rfl rfl sc27 rfl rfl ?_) | refine W_op rfl (op_load 1 rfl rfl sc27 rfl rfl ?_) | refine W_op rfl (op_load 2 rfl rfl sc27 rfl rfl ?_) | refine W_op rfl (op_load 3 rfl rfl sc27 rfl rfl ?_) | refine W_op rfl (op_load 4 rfl rfl sc27 rfl rfl ?_) | refine W_op rfl (op_load 5 rfl rfl sc27 rfl rfl ?_) | refine W_op rfl (op_load 6 rfl rfl sc27 rfl rfl ?_) | refine W_op rfl (op_load 7 rfl rfl sc27 rfl rfl ?_)
  refine W_rd (rd_len sl27.und rfl) rfl rfl rfl ?_
  refine W_rd (rd_assign rfl) rfl rfl rfl ?_
  refine W_nil ?_
  refine N_then ?_
  refine C_ret ?_
  repeat (first | refine Rt_then ?_ | refine Rt_block ?_)
  refine Rt_pack [0, 0] rfl (wr_mk (bs := bs) rfl rfl) ?_
  exact Ret1 [0] rfl rfl rfl rfl ⟨rfl, rfl⟩
theorem wBytes_c (g : Nat) (bs : List UInt8) (hb : bs.length < 2 ^ 41) :
    Tr Tryz.prog 88 [.ptr g 0] (fun o => True) ([Wr g bs]) (fun x H' => ∃ A cp, x = .sl A bs.length cp ∧ H' = [Row 1 5 A bs.length cp (bs.map .u8), Wr g bs]) := by
  refine Tr_intro Tryz.func88 rfl rfl (fun c hR => ?_)
  refine C_openWr [0] rfl ?_
  intro A cp
  refine C_seq ?_
  refine C_region ?_
  refine W_rd (rd_assign rfl) rfl rfl rfl ?_
  refine W_nil ?_
  refine N_then ?_
  refine C_seq ?_
  refine C_seq ?_
  refine C_region ?_
  refine W_rd (rd_move rfl) rfl rfl rfl ?_
  first | refine W_rd (rd_ptr_eq rfl rfl un155) rfl rfl rfl ?_ | refine W_rd (rd_nil_eq rfl rfl un155) rfl rfl rfl ?_
  refine W_nil ?_
  refine N_then ?_
  refine C_cond rfl (fun h => by first | (cases h; done) | (simp at h; done) | (simp at h; omega)) (fun ht4 => ?_)
  refine C_skip ?_
  refine N_then ?_
  refine C_seq ?_
  refine C_region ?_
  refine W_op rfl (op_slice sl27 ze5 rfl rfl rfl rfl rfl rfl (by omega) rfl ?_)
  intro At5 hAt5
  refine W_rd (rd_move rfl) rfl rfl rfl ?_
  refine W_rd (rd_nilCheck rfl) rfl rfl rfl ?_
  refine W_rd (rd_fieldAddr fa157_0 rfl) rfl rfl rfl ?_
  first | refine W_op rfl (op_load 0 rfl rfl sc27 rfl rfl ?_) | refine W_op rfl (op_load 1 rfl rfl sc27 rfl rfl ?_) | refine W_op rfl (op_load 2 rfl rfl sc27 rfl rfl ?_) | refine W_op rfl (op_load 3 rfl rfl sc27 rfl rfl ?_) | refine W_op rfl (op_load 4 rfl rfl sc27 rfl rfl ?_) | refine W_op rfl (op_load 5 rfl rfl sc27 rfl rfl ?_) | refine W_op rfl (op_load 6 rfl rfl sc27 rfl rfl ?_) | refine W_op rfl (op_load 7 rfl rfl sc27 rfl rfl ?_)
  refine W_op rfl (op_append 0 sl27 rfl rfl rfl (Src.ofRow 2 rfl (by simp)) (one_u8 _) (by omega) rfl ?_)
  intro At10 ct10 Ht10 hHt10; obtain rfl := Option.some.inj hHt10
  refine W_rd (rd_assign rfl) rfl rfl rfl ?_
  refine W_nil ?_
  refine N_then ?_
  refine C_ret ?_
  repeat (first | refine Rt_then ?_ | refine Rt_block ?_)
  refine Rt_pack [1, 1] rfl (wr_mk (bs := bs) rfl rfl) ?_
  exact Ret1 [1, 0] rfl rfl rfl rfl ⟨At10, ct10, by simp, by simp⟩
theorem crcPut_c (A : Option Addr) (cp : Nat) (bs : List UInt8) (hb : bs.length < 2 ^ 41) :
    Tr Tryz.prog 102 [.sl A bs.length cp] (fun o => RS o 1 A bs.length cp (bs.map .u8)) ([]) (fun x H' => ∃ A cp, x = .sl A (crcB bs).length cp ∧ H' = [Row 1 5 A (crcB bs).length cp ((crcB bs).map .u8)]) := by
  refine Tr_intro Tryz.func102 rfl rfl (fun c hR => ?_)
  refine C_seq ?_
  refine C_region ?_
  refine W_rd (rd_assign rfl) rfl rfl rfl ?_
  refine W_nil ?_
  refine N_then ?_
  refine C_seq ?_
  refine C_region ?_
  refine W_rd (rd_move rfl) rfl rfl rfl ?_
  refine W_op rfl (op_call (crcSum_c A cp bs) Tryz.func188 rfl rfl rfl (pickR_spec (is := []) rfl) (fun o hle _ => hR.mono hle) rfl ?_)
  rintro xt5 Ht5 ⟨rfl, rfl⟩
  refine W_rd (rd_assign rfl) rfl rfl rfl ?_
  refine W_nil ?_
  refine N_then ?_
  refine C_seq ?_
  refine C_region ?_
  refine W_op rfl (op_slice sl27 ze5 rfl rfl rfl rfl rfl rfl (by omega) rfl ?_)
  intro At6 hAt6
  refine W_rd (rd_move rfl) rfl rfl rfl ?_
  refine W_op rfl (op_append 0 sl27 rfl rfl rfl (Src.ofRS hR) (one_u8 _) (by omega) rfl ?_)
  intro At8 ct8 Ht8 hHt8; obtain rfl := Option.some.inj hHt8
  refine W_rd (rd_move rfl) rfl rfl rfl ?_
  refine W_rd (rd_conv un40 un5 rfl rfl) rfl rfl rfl ?_
  refine W_rd (rd_move rfl) rfl rfl rfl ?_
  refine W_rd (rd_shift rfl rfl rfl (.inr rfl) rfl (by omega)) rfl rfl rfl ?_
  refine W_rd (rd_conv un40 un5 rfl rfl) rfl rfl rfl ?_
  refine W_rd (rd_move rfl) rfl rfl rfl ?_
  refine W_rd (rd_shift rfl rfl rfl (.inr rfl) rfl (by omega)) rfl rfl rfl ?_
  refine W_rd (rd_conv un40 un5 rfl rfl) rfl rfl rfl ?_
  refine W_rd (rd_move rfl) rfl rfl rfl ?_
  refine W_rd (rd_shift rfl rfl rfl (.inr rfl) rfl (by omega)) rfl rfl rfl ?_
  refine W_rd (rd_conv un40 un5 rfl rfl) rfl rfl rfl ?_
  refine W_op rfl (op_slice sl27 ze5 rfl rfl rfl rfl rfl rfl (by omega) rfl ?_)
  intro At20 hAt20
  refine W_op rfl (op_append 1 sl27 rfl rfl rfl (Src.ofRow 0 rfl rfl) rfl (by omega) rfl ?_)
  intro At21 ct21 Ht21 hHt21; obtain rfl := Option.some.inj hHt21
  refine W_rd (rd_assign rfl) rfl rfl rfl ?_
  refine W_nil ?_
  refine N_then ?_
  refine C_ret ?_
  repeat (first | refine Rt_then ?_ | refine Rt_block ?_)
  exact Ret1 [1] rfl rfl rfl rfl ⟨At21, ct21, by simp [crcB, wordB_length], by simp [crcB, wordB]⟩
end Go.Hb.Wk2
