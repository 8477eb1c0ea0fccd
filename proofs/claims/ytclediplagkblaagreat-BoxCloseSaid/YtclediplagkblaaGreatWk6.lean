/- A part of the proofs of this seat: rules of a logic of owned and of lent memory, what functions compute, or their walks. -/
import Derived.Test.YtclediplagkblaaGreatCore12
import Derived.Test.YtclediplagkblaaGreatProg
import Derived.Test.YtclediplagkblaaGreatSp5
import Derived.Test.YtclediplagkblaaGreatWk5
set_option linter.unusedVariables false
set_option linter.unusedSimpArgs false
namespace Go.Hb.Wk6
open Go Go.Proofs
open Go.Hb.Wk1 Go.Hb.Wk2 Go.Hb.Wk3 Go.Hb.Wk4
theorem ze224 : Zero Tryz.prog 224 ([.sl none 0 0, .i64 0, .i64 0]) := Zero.ofK (by kernel_rfl)
theorem fa224_0 : FA Tryz.prog 224 0 0 := fun _ _ => by kernel_rfl
theorem fa224_1 : FA Tryz.prog 224 1 1 := fun _ _ => by kernel_rfl
theorem fa224_2 : FA Tryz.prog 224 2 2 := fun _ _ => by kernel_rfl
theorem la224 : Lay Tryz.prog 224 ([.sl none 0 0, .i64 0, .i64 0]) [(0, 1), (1, 1), (2, 1)] := Lay.ofK ze224 (by kernel_rfl)
theorem sc27 : Scal Tryz.prog 27 := ⟨fun _ => by kernel_rfl, fun _ => by kernel_rfl⟩
theorem sc3 : Scal Tryz.prog 3 := ⟨fun _ => by kernel_rfl, fun _ => by kernel_rfl⟩
theorem sc5 : Scal Tryz.prog 5 := ⟨fun _ => by kernel_rfl, fun _ => by kernel_rfl⟩
theorem sc53 : Scal Tryz.prog 53 := ⟨fun _ => by kernel_rfl, fun _ => by kernel_rfl⟩
theorem sl27 : SlT Tryz.prog 27 5 1 1 := SlT.ofB (by kernel_rfl) rfl
theorem un140 : Tryz.prog.underlying 140 = some (.pointer 224) := by kernel_rfl
theorem un40 : Tryz.prog.underlying 40 = some (.int .u32) := by kernel_rfl
theorem un5 : Tryz.prog.underlying 5 = some (.int .u8) := by kernel_rfl
theorem crcRight_c (A : Option Addr) (cp : Nat) (bs : List UInt8) :
    Tr Tryz.prog 111 [.sl A bs.length cp] (fun o => RS o 1 A bs.length cp (bs.map .u8)) ([]) (fun x H' => x = .b (crcRight bs) ∧ H' = []) := by
  refine Tr_intro Tryz.func111 rfl rfl (fun c hR => ?_)
  have h63 := hR.le63
  refine C_seq ?_
  refine C_region ?_
  refine W_rd (rd_assign rfl) rfl rfl rfl ?_
  refine W_nil ?_
  refine N_then ?_
  refine C_seq ?_
  refine C_seq ?_
  refine C_region ?_
  refine W_rd (rd_move rfl) rfl rfl rfl ?_
  refine W_rd (rd_len sl27.und rfl) rfl rfl rfl ?_
  refine W_rd (rd_bin rfl rfl rfl) rfl rfl rfl ?_
  refine W_nil ?_
  refine N_then ?_
  refine C_cond rfl (fun ht7 => ?_) (fun ht7 => ?_)
  ·
    have hlt := of_decide_eq_true ht7
    refine C_seq ?_
    refine C_region ?_
    refine W_rd (rd_assign rfl) rfl rfl rfl ?_
    refine W_nil ?_
    refine N_then ?_
    refine C_ret ?_
    repeat (first | refine Rt_then ?_ | refine Rt_block ?_)
    refine Ret1 [] rfl rfl rfl rfl ⟨?_, rfl⟩
    rw [crcRight, if_pos (by omega)]
  ·
    have hge := of_decide_eq_false ht7
    have hRt := hR.cut (lo := 0) (hi := bs.length - 4) (mx := cp) (by omega) (by omega) (by have := hR.cap; omega) (Nat.le_refl _)
    have hcap := hR.cap
    have hlt : bs.length - 4 - 0 = (bs.take (bs.length - 4)).length := by simp
    have hRt' : RS c.o 1 (cutA A 0 cp 1) (bs.length - 4 - 0) (cp - 0) ((bs.take (bs.length - 4)).map .u8) := by simpa using hRt
    obtain ⟨b0, hb0⟩ : ∃ b, bs[bs.length - 4]? = some b := ⟨bs[bs.length - 4], List.getElem?_eq_getElem (by omega)⟩
    obtain ⟨b1, hb1⟩ : ∃ b, bs[bs.length - 4 + 1]? = some b := ⟨bs[bs.length - 4 + 1], List.getElem?_eq_getElem (by omega)⟩
    obtain ⟨b2, hb2⟩ : ∃ b, bs[bs.length - 4 + 2]? = some b := ⟨bs[bs.length - 4 + 2], List.getElem?_eq_getElem (by omega)⟩
    obtain ⟨b3, hb3⟩ : ∃ b, bs[bs.length - 4 + 3]? = some b := ⟨bs[bs.length - 4 + 3], List.getElem?_eq_getElem (by omega)⟩
    have heq := crcRight_eq (by omega) hb0 hb1 hb2 hb3
    refine C_skip ?_
    refine N_then ?_
    refine C_seq ?_
    refine C_region ?_
    refine W_rd (rd_move rfl) rfl rfl rfl ?_
    refine W_rd (rd_len sl27.und rfl) rfl rfl rfl ?_
    first | refine W_rd (rd_isubN (y := 4) rfl rfl (by omega) (by omega)) rfl rfl rfl ?_
    refine W_rd (rd_assign rfl) rfl rfl rfl ?_
    refine W_nil ?_
    refine N_then ?_
    refine C_seq ?_
    refine C_region ?_
    refine W_rd (rd_move rfl) rfl rfl rfl ?_
    refine W_rd (rd_move rfl) rfl rfl rfl ?_
    first | refine W_rd (rd_cut sl27 rfl rfl rfl (zl := 0) (by omega)) rfl rfl rfl ?_
    refine W_op rfl (op_call (crcSum_n (cutA A 0 cp 1) (cp - 0) (bs.take (bs.length - 4)) hlt) Tryz.func188 rfl rfl rfl (pickR_spec (is := []) rfl) (fun o hle _ => hRt'.mono hle) rfl ?_)
    rintro xt14 Ht14 ⟨rfl, rfl⟩
    refine W_rd (rd_assign rfl) rfl rfl rfl ?_
    refine W_nil ?_
    refine N_then ?_
    refine C_seq ?_
    refine C_region ?_
    refine W_rd (rd_move rfl) rfl rfl rfl ?_
    refine W_rd (rd_move rfl) rfl rfl rfl ?_
    refine W_rd (rd_indexN1 sl27 hR rfl rfl (by omega)) rfl rfl rfl ?_
    refine W_rd (rd_load_el hR rfl sc5 (x := .u8 b0) (by simp [hb0])) rfl rfl rfl ?_
    refine W_rd (rd_move rfl) rfl rfl rfl ?_
    refine W_rd (rd_conv un40 un5 rfl rfl) rfl rfl rfl ?_
    refine W_rd (rd_bin rfl rfl rfl) rfl rfl rfl ?_
    refine W_rd (rd_move rfl) rfl rfl rfl ?_
    refine W_split (dd := 22) rfl (fun ht22 => ?_) (fun ht22 => ?_)
    ·
      refine W_gt rfl rfl rfl (op_rd (rd_move rfl) rfl rfl ?_)
      refine W_gt rfl rfl rfl (op_rd (rd_move rfl) rfl rfl ?_)
      first | refine W_gt rfl rfl rfl (op_rd (rd_iaddN (y := 1) rfl rfl (by omega)) rfl rfl ?_)
      refine W_gt rfl rfl rfl (op_rd (rd_indexN1 sl27 hR rfl rfl (by omega)) rfl rfl ?_)
      refine W_gt rfl rfl rfl (op_rd (rd_load_el hR rfl sc5 (x := .u8 b1) (by simp [hb1])) rfl rfl ?_)
      refine W_gt rfl rfl rfl (op_rd (rd_move rfl) rfl rfl ?_)
      refine W_gt rfl rfl rfl (op_rd (rd_shift rfl rfl rfl (.inr rfl) rfl (by omega)) rfl rfl ?_)
      refine W_gt rfl rfl rfl (op_rd (rd_conv un40 un5 rfl rfl) rfl rfl ?_)
      refine W_gt rfl rfl rfl (op_rd (rd_bin rfl rfl rfl) rfl rfl ?_)
      refine W_rd (rd_pick rfl rfl) rfl rfl rfl ?_
      refine W_rd (rd_move rfl) rfl rfl rfl ?_
      refine W_split (dd := 33) rfl (fun ht33 => ?_) (fun ht33 => ?_)
      ·
        refine W_gt rfl rfl rfl (op_rd (rd_move rfl) rfl rfl ?_)
        refine W_gt rfl rfl rfl (op_rd (rd_move rfl) rfl rfl ?_)
        first | refine W_gt rfl rfl rfl (op_rd (rd_iaddN (y := 2) rfl rfl (by omega)) rfl rfl ?_)
        refine W_gt rfl rfl rfl (op_rd (rd_indexN1 sl27 hR rfl rfl (by omega)) rfl rfl ?_)
        refine W_gt rfl rfl rfl (op_rd (rd_load_el hR rfl sc5 (x := .u8 b2) (by simp [hb2])) rfl rfl ?_)
        refine W_gt rfl rfl rfl (op_rd (rd_move rfl) rfl rfl ?_)
        refine W_gt rfl rfl rfl (op_rd (rd_shift rfl rfl rfl (.inr rfl) rfl (by omega)) rfl rfl ?_)
        refine W_gt rfl rfl rfl (op_rd (rd_conv un40 un5 rfl rfl) rfl rfl ?_)
        refine W_gt rfl rfl rfl (op_rd (rd_bin rfl rfl rfl) rfl rfl ?_)
        refine W_rd (rd_pick rfl rfl) rfl rfl rfl ?_
        refine W_rd (rd_move rfl) rfl rfl rfl ?_
        refine W_split (dd := 44) rfl (fun ht44 => ?_) (fun ht44 => ?_)
        ·
          refine W_gt rfl rfl rfl (op_rd (rd_move rfl) rfl rfl ?_)
          refine W_gt rfl rfl rfl (op_rd (rd_move rfl) rfl rfl ?_)
          first | refine W_gt rfl rfl rfl (op_rd (rd_iaddN (y := 3) rfl rfl (by omega)) rfl rfl ?_)
          refine W_gt rfl rfl rfl (op_rd (rd_indexN1 sl27 hR rfl rfl (by omega)) rfl rfl ?_)
          refine W_gt rfl rfl rfl (op_rd (rd_load_el hR rfl sc5 (x := .u8 b3) (by simp [hb3])) rfl rfl ?_)
          refine W_gt rfl rfl rfl (op_rd (rd_move rfl) rfl rfl ?_)
          refine W_gt rfl rfl rfl (op_rd (rd_shift rfl rfl rfl (.inr rfl) rfl (by omega)) rfl rfl ?_)
          refine W_gt rfl rfl rfl (op_rd (rd_conv un40 un5 rfl rfl) rfl rfl ?_)
          refine W_gt rfl rfl rfl (op_rd (rd_bin rfl rfl rfl) rfl rfl ?_)
          refine W_rd (rd_pick rfl rfl) rfl rfl rfl ?_
          refine W_rd (rd_assign rfl) rfl rfl rfl ?_
          refine W_nil ?_
          refine N_then ?_
          refine C_ret ?_
          repeat (first | refine Rt_then ?_ | refine Rt_block ?_)
          refine Ret1 [] rfl rfl rfl rfl ⟨?_, rfl⟩
          rw [heq]; simp_all; try rfl
        ·
          refine W_gf rfl rfl rfl (by first | exact .inl rfl | exact .inr rfl) rfl rfl ?_
          refine W_gf rfl rfl rfl (by first | exact .inl rfl | exact .inr rfl) rfl rfl ?_
          refine W_gf rfl rfl rfl (by first | exact .inl rfl | exact .inr rfl) rfl rfl ?_
          refine W_gf rfl rfl rfl (by first | exact .inl rfl | exact .inr rfl) rfl rfl ?_
          refine W_gf rfl rfl rfl (by first | exact .inl rfl | exact .inr rfl) rfl rfl ?_
          refine W_gf rfl rfl rfl (by first | exact .inl rfl | exact .inr rfl) rfl rfl ?_
          refine W_gf rfl rfl rfl (by first | exact .inl rfl | exact .inr rfl) rfl rfl ?_
          refine W_gf rfl rfl rfl (by first | exact .inl rfl | exact .inr rfl) rfl rfl ?_
          refine W_gf rfl rfl rfl (by first | exact .inl rfl | exact .inr rfl) rfl rfl ?_
          refine W_rd (rd_pick rfl rfl) rfl rfl rfl ?_
          refine W_rd (rd_assign rfl) rfl rfl rfl ?_
          refine W_nil ?_
          refine N_then ?_
          refine C_ret ?_
          repeat (first | refine Rt_then ?_ | refine Rt_block ?_)
          refine Ret1 [] rfl rfl rfl rfl ⟨?_, rfl⟩
          rw [heq]; simp_all; try rfl
      ·
        refine W_gf rfl rfl rfl (by first | exact .inl rfl | exact .inr rfl) rfl rfl ?_
        refine W_gf rfl rfl rfl (by first | exact .inl rfl | exact .inr rfl) rfl rfl ?_
        refine W_gf rfl rfl rfl (by first | exact .inl rfl | exact .inr rfl) rfl rfl ?_
        refine W_gf rfl rfl rfl (by first | exact .inl rfl | exact .inr rfl) rfl rfl ?_
        refine W_gf rfl rfl rfl (by first | exact .inl rfl | exact .inr rfl) rfl rfl ?_
        refine W_gf rfl rfl rfl (by first | exact .inl rfl | exact .inr rfl) rfl rfl ?_
        refine W_gf rfl rfl rfl (by first | exact .inl rfl | exact .inr rfl) rfl rfl ?_
        refine W_gf rfl rfl rfl (by first | exact .inl rfl | exact .inr rfl) rfl rfl ?_
        refine W_gf rfl rfl rfl (by first | exact .inl rfl | exact .inr rfl) rfl rfl ?_
        refine W_rd (rd_pick rfl rfl) rfl rfl rfl ?_
        refine W_rd (rd_move rfl) rfl rfl rfl ?_
        refine W_gf rfl rfl rfl (by first | exact .inl rfl | exact .inr rfl) rfl rfl ?_
        refine W_gf rfl rfl rfl (by first | exact .inl rfl | exact .inr rfl) rfl rfl ?_
        refine W_gf rfl rfl rfl (by first | exact .inl rfl | exact .inr rfl) rfl rfl ?_
        refine W_gf rfl rfl rfl (by first | exact .inl rfl | exact .inr rfl) rfl rfl ?_
        refine W_gf rfl rfl rfl (by first | exact .inl rfl | exact .inr rfl) rfl rfl ?_
        refine W_gf rfl rfl rfl (by first | exact .inl rfl | exact .inr rfl) rfl rfl ?_
        refine W_gf rfl rfl rfl (by first | exact .inl rfl | exact .inr rfl) rfl rfl ?_
        refine W_gf rfl rfl rfl (by first | exact .inl rfl | exact .inr rfl) rfl rfl ?_
        refine W_gf rfl rfl rfl (by first | exact .inl rfl | exact .inr rfl) rfl rfl ?_
        refine W_rd (rd_pick rfl rfl) rfl rfl rfl ?_
        refine W_rd (rd_assign rfl) rfl rfl rfl ?_
        refine W_nil ?_
        refine N_then ?_
        refine C_ret ?_
        repeat (first | refine Rt_then ?_ | refine Rt_block ?_)
        refine Ret1 [] rfl rfl rfl rfl ⟨?_, rfl⟩
        rw [heq]; simp_all; try rfl
    ·
      refine W_gf rfl rfl rfl (by first | exact .inl rfl | exact .inr rfl) rfl rfl ?_
      refine W_gf rfl rfl rfl (by first | exact .inl rfl | exact .inr rfl) rfl rfl ?_
      refine W_gf rfl rfl rfl (by first | exact .inl rfl | exact .inr rfl) rfl rfl ?_
      refine W_gf rfl rfl rfl (by first | exact .inl rfl | exact .inr rfl) rfl rfl ?_
      refine W_gf rfl rfl rfl (by first | exact .inl rfl | exact .inr rfl) rfl rfl ?_
      refine W_gf rfl rfl rfl (by first | exact .inl rfl | exact .inr rfl) rfl rfl ?_
      refine W_gf rfl rfl rfl (by first | exact .inl rfl | exact .inr rfl) rfl rfl ?_
      refine W_gf rfl rfl rfl (by first | exact .inl rfl | exact .inr rfl) rfl rfl ?_
      refine W_gf rfl rfl rfl (by first | exact .inl rfl | exact .inr rfl) rfl rfl ?_
      refine W_rd (rd_pick rfl rfl) rfl rfl rfl ?_
      refine W_rd (rd_move rfl) rfl rfl rfl ?_
      refine W_gf rfl rfl rfl (by first | exact .inl rfl | exact .inr rfl) rfl rfl ?_
      refine W_gf rfl rfl rfl (by first | exact .inl rfl | exact .inr rfl) rfl rfl ?_
      refine W_gf rfl rfl rfl (by first | exact .inl rfl | exact .inr rfl) rfl rfl ?_
      refine W_gf rfl rfl rfl (by first | exact .inl rfl | exact .inr rfl) rfl rfl ?_
      refine W_gf rfl rfl rfl (by first | exact .inl rfl | exact .inr rfl) rfl rfl ?_
      refine W_gf rfl rfl rfl (by first | exact .inl rfl | exact .inr rfl) rfl rfl ?_
      refine W_gf rfl rfl rfl (by first | exact .inl rfl | exact .inr rfl) rfl rfl ?_
      refine W_gf rfl rfl rfl (by first | exact .inl rfl | exact .inr rfl) rfl rfl ?_
      refine W_gf rfl rfl rfl (by first | exact .inl rfl | exact .inr rfl) rfl rfl ?_
      refine W_rd (rd_pick rfl rfl) rfl rfl rfl ?_
      refine W_rd (rd_move rfl) rfl rfl rfl ?_
      refine W_gf rfl rfl rfl (by first | exact .inl rfl | exact .inr rfl) rfl rfl ?_
      refine W_gf rfl rfl rfl (by first | exact .inl rfl | exact .inr rfl) rfl rfl ?_
      refine W_gf rfl rfl rfl (by first | exact .inl rfl | exact .inr rfl) rfl rfl ?_
      refine W_gf rfl rfl rfl (by first | exact .inl rfl | exact .inr rfl) rfl rfl ?_
      refine W_gf rfl rfl rfl (by first | exact .inl rfl | exact .inr rfl) rfl rfl ?_
      refine W_gf rfl rfl rfl (by first | exact .inl rfl | exact .inr rfl) rfl rfl ?_
      refine W_gf rfl rfl rfl (by first | exact .inl rfl | exact .inr rfl) rfl rfl ?_
      refine W_gf rfl rfl rfl (by first | exact .inl rfl | exact .inr rfl) rfl rfl ?_
      refine W_gf rfl rfl rfl (by first | exact .inl rfl | exact .inr rfl) rfl rfl ?_
      refine W_rd (rd_pick rfl rfl) rfl rfl rfl ?_
      refine W_rd (rd_assign rfl) rfl rfl rfl ?_
      refine W_nil ?_
      refine N_then ?_
      refine C_ret ?_
      repeat (first | refine Rt_then ?_ | refine Rt_block ?_)
      refine Ret1 [] rfl rfl rfl rfl ⟨?_, rfl⟩
      rw [heq]; simp_all; try rfl
theorem crcRight_n {n : Nat} (A : Option Addr) (cp : Nat) (bs : List UInt8) (hn : n = bs.length) : Tr Tryz.prog 111 [.sl A n cp] (fun o => RS o 1 A n cp (bs.map .u8)) [] (fun x H' => x = .b (crcRight bs) ∧ H' = []) := by
  subst hn; exact crcRight_c A cp bs
theorem rRead_c (A : Option Addr) (cp : Nat) (bs : List UInt8) :
    Tr Tryz.prog 69 [.sl A bs.length cp] (fun o => True) ([]) (fun x H' => ∃ g, x = .ptr g 0 ∧ H' = [Rdr g A cp bs ⟨0, 0⟩]) := by
  refine Tr_intro Tryz.func69 rfl rfl (fun c hR => ?_)
  refine C_seq ?_
  refine C_region ?_
  refine W_rd (rd_assign rfl) rfl rfl rfl ?_
  refine W_nil ?_
  refine N_then ?_
  refine C_seq ?_
  refine C_region ?_
  refine W_rd (rd_move rfl) rfl rfl rfl ?_
  refine W_rd (rd_build la224 rfl rfl rfl) rfl rfl rfl ?_
  refine W_op rfl (op_box rfl (by first | exact .inl rfl | exact .inr ⟨_, rfl⟩) rfl ?_)
  intro gt5
  refine W_rd (rd_assign rfl) rfl rfl rfl ?_
  refine W_nil ?_
  refine N_then ?_
  refine C_ret ?_
  repeat (first | refine Rt_then ?_ | refine Rt_block ?_)
  exact Ret1 [0] rfl rfl rfl rfl ⟨gt5, rfl, rfl⟩
theorem rRead_n {n : Nat} (A : Option Addr) (cp : Nat) (bs : List UInt8) (hn : n = bs.length) : Tr Tryz.prog 69 [.sl A n cp] (fun o => True) [] (fun x H' => ∃ g, x = .ptr g 0 ∧ H' = [Rdr g A cp bs ⟨0, 0⟩]) := by
  subst hn; exact rRead_c A cp bs
theorem rFail_c (g : Nat) (A : Option Addr) (cp : Nat) (bs : List UInt8) (s : Rs) (e : Int) :
    Tr Tryz.prog 145 [.ptr g 0, .i64 e] (fun o => True) ([Rdr g A cp bs s]) (fun x H' => x = .tup [] ∧ H' = [Rdr g A cp bs (s.fail e)]) := by
  refine Tr_intro Tryz.func145 rfl rfl (fun c hR => ?_)
  refine C_seq ?_
  refine C_region ?_
  refine W_rd (rd_move rfl) rfl rfl rfl ?_
  first | refine W_rd (rd_ptr_ne rfl rfl un140) rfl rfl rfl ?_ | refine W_rd (rd_nil_ne rfl rfl un140) rfl rfl rfl ?_
  refine W_rd (rd_move rfl) rfl rfl rfl ?_
  refine W_gt rfl rfl rfl (op_rd (rd_move rfl) rfl rfl ?_)
  refine W_gt rfl rfl rfl (op_rd (rd_nilCheck rfl) rfl rfl ?_)
  refine W_gt rfl rfl rfl (op_rd (rd_fieldAddr fa224_2 rfl) rfl rfl ?_)
  first | refine W_gt rfl rfl rfl (op_load 0 rfl rfl sc53 rfl rfl ?_) | refine W_gt rfl rfl rfl (op_load 1 rfl rfl sc53 rfl rfl ?_) | refine W_gt rfl rfl rfl (op_load 2 rfl rfl sc53 rfl rfl ?_) | refine W_gt rfl rfl rfl (op_load 3 rfl rfl sc53 rfl rfl ?_) | refine W_gt rfl rfl rfl (op_load 4 rfl rfl sc53 rfl rfl ?_) | refine W_gt rfl rfl rfl (op_load 5 rfl rfl sc53 rfl rfl ?_) | refine W_gt rfl rfl rfl (op_load 6 rfl rfl sc53 rfl rfl ?_) | refine W_gt rfl rfl rfl (op_load 7 rfl rfl sc53 rfl rfl ?_)
  refine W_gt rfl rfl rfl (op_rd (rd_bin rfl rfl rfl) rfl rfl ?_)
  refine W_rd (rd_pick rfl rfl) rfl rfl rfl ?_
  refine W_nil ?_
  refine N_then ?_
  refine C_cond rfl (fun ht12 => ?_) (fun ht12 => ?_)
  ·
    refine C_region ?_
    refine W_rd (rd_move rfl) rfl rfl rfl ?_
    refine W_rd (rd_move rfl) rfl rfl rfl ?_
    refine W_rd (rd_nilCheck rfl) rfl rfl rfl ?_
    refine W_rd (rd_fieldAddr fa224_2 rfl) rfl rfl rfl ?_
    first | refine W_op rfl (op_st 0 rfl rfl rfl sc53 rfl rfl rfl ?_) | refine W_op rfl (op_st 1 rfl rfl rfl sc53 rfl rfl rfl ?_) | refine W_op rfl (op_st 2 rfl rfl rfl sc53 rfl rfl rfl ?_) | refine W_op rfl (op_st 3 rfl rfl rfl sc53 rfl rfl rfl ?_) | refine W_op rfl (op_st 4 rfl rfl rfl sc53 rfl rfl rfl ?_) | refine W_op rfl (op_st 5 rfl rfl rfl sc53 rfl rfl rfl ?_) | refine W_op rfl (op_st 6 rfl rfl rfl sc53 rfl rfl rfl ?_) | refine W_op rfl (op_st 7 rfl rfl rfl sc53 rfl rfl rfl ?_)
    refine W_nil ?_
    exact End0 [0] rfl rfl (by have h : s.err = 0 := of_decide_eq_true ht12; simp only [Rs.fail, h, if_true]) ⟨rfl, rfl⟩
  ·
    refine C_skip ?_
    exact End0 [0] rfl rfl (by have h : ¬ s.err = 0 := of_decide_eq_false ht12; simp only [Rs.fail, h, if_false]) ⟨rfl, rfl⟩
theorem rLeft_c (g : Nat) (A : Option Addr) (cp : Nat) (bs : List UInt8) (s : Rs) (hat : s.at_ ≤ bs.length) (hb : bs.length < 2 ^ 40) :
    Tr Tryz.prog 154 [.ptr g 0] (fun o => True) ([Rdr g A cp bs s]) (fun x H' => x = .i64 (s.left bs : Nat) ∧ H' = [Rdr g A cp bs s]) := by
  refine Tr_intro Tryz.func154 rfl rfl (fun c hR => ?_)
  refine C_seq ?_
  refine C_region ?_
  refine W_rd (rd_assign rfl) rfl rfl rfl ?_
  refine W_nil ?_
  refine N_then ?_
  refine C_seq ?_
  refine C_seq ?_
  refine C_region ?_
  refine W_rd (rd_move rfl) rfl rfl rfl ?_
  first | refine W_rd (rd_ptr_eq rfl rfl un140) rfl rfl rfl ?_ | refine W_rd (rd_nil_eq rfl rfl un140) rfl rfl rfl ?_
  refine W_rd (rd_move rfl) rfl rfl rfl ?_
  refine W_gt rfl rfl rfl (op_rd (rd_move rfl) rfl rfl ?_)
  refine W_gt rfl rfl rfl (op_rd (rd_nilCheck rfl) rfl rfl ?_)
  refine W_gt rfl rfl rfl (op_rd (rd_fieldAddr fa224_2 rfl) rfl rfl ?_)
  first | refine W_gt rfl rfl rfl (op_load 0 rfl rfl sc53 rfl rfl ?_) | refine W_gt rfl rfl rfl (op_load 1 rfl rfl sc53 rfl rfl ?_) | refine W_gt rfl rfl rfl (op_load 2 rfl rfl sc53 rfl rfl ?_) | refine W_gt rfl rfl rfl (op_load 3 rfl rfl sc53 rfl rfl ?_) | refine W_gt rfl rfl rfl (op_load 4 rfl rfl sc53 rfl rfl ?_) | refine W_gt rfl rfl rfl (op_load 5 rfl rfl sc53 rfl rfl ?_) | refine W_gt rfl rfl rfl (op_load 6 rfl rfl sc53 rfl rfl ?_) | refine W_gt rfl rfl rfl (op_load 7 rfl rfl sc53 rfl rfl ?_)
  refine W_gt rfl rfl rfl (op_rd (rd_bin rfl rfl rfl) rfl rfl ?_)
  refine W_rd (rd_pick rfl rfl) rfl rfl rfl ?_
  refine W_nil ?_
  refine N_then ?_
  refine C_cond rfl (fun ht11 => ?_) (fun ht11 => ?_)
  ·
    refine C_seq ?_
    refine C_region ?_
    refine W_rd (rd_assign rfl) rfl rfl rfl ?_
    refine W_nil ?_
    refine N_then ?_
    refine C_ret ?_
    repeat (first | refine Rt_then ?_ | refine Rt_block ?_)
    refine Ret1 [0] rfl rfl rfl rfl ⟨?_, rfl⟩
    rw [Rs.left, if_pos (by simpa using ht11)]; rfl
  ·
    refine C_skip ?_
    refine N_then ?_
    refine C_seq ?_
    refine C_draw (by kernel_rfl) none _ _ (pickR_spec (is := []) rfl) ?_
    intro c3 hle3 hsub3 back3
    have hB := hsub3.blk 0 rfl
    refine D_take (i := 0) rfl (by kernel_rfl) (rd_move rfl) rfl rfl rfl ?_
    refine D_take (i := 1) rfl (by kernel_rfl) (rd_nilCheck rfl) rfl rfl rfl ?_
    refine D_take (i := 2) rfl (by kernel_rfl) (rd_fieldAddr fa224_0 rfl) rfl rfl rfl ?_
    first | refine D_take (i := 3) rfl (by kernel_rfl) (rd_load rfl hB sc27 rfl) rfl rfl rfl ?_
    refine D_take (i := 4) rfl (by kernel_rfl) (rd_len sl27.und rfl) rfl rfl rfl ?_
    refine D_take (i := 5) rfl (by kernel_rfl) (rd_move rfl) rfl rfl rfl ?_
    refine D_take (i := 6) rfl (by kernel_rfl) (rd_nilCheck rfl) rfl rfl rfl ?_
    refine D_take (i := 7) rfl (by kernel_rfl) (rd_fieldAddr fa224_1 rfl) rfl rfl rfl ?_
    first | refine D_take (i := 8) rfl (by kernel_rfl) (rd_load rfl hB sc3 rfl) rfl rfl rfl ?_
    first | refine D_take (i := 9) rfl (by kernel_rfl) (rd_isubN rfl rfl hat (by omega)) rfl rfl rfl ?_
    refine D_take (i := 10) rfl (by kernel_rfl) (rd_assign rfl) rfl rfl rfl ?_
    refine D_done (by kernel_rfl) back3 ?_
    refine N_then ?_
    refine C_ret ?_
    repeat (first | refine Rt_then ?_ | refine Rt_block ?_)
    refine Ret1 [0] rfl rfl rfl rfl ⟨?_, rfl⟩
    rw [Rs.left, if_neg (by simpa using ht11)]
theorem rErr_c (g : Nat) (A : Option Addr) (cp : Nat) (bs : List UInt8) (s : Rs) :
    Tr Tryz.prog 143 [.ptr g 0] (fun o => True) ([Rdr g A cp bs s]) (fun x H' => x = .i64 s.err ∧ H' = [Rdr g A cp bs s]) := by
  refine Tr_intro Tryz.func143 rfl rfl (fun c hR => ?_)
  refine C_seq ?_
  refine C_region ?_
  refine W_rd (rd_assign rfl) rfl rfl rfl ?_
  refine W_nil ?_
  refine N_then ?_
  refine C_seq ?_
  refine C_seq ?_
  refine C_region ?_
  refine W_rd (rd_move rfl) rfl rfl rfl ?_
  first | refine W_rd (rd_ptr_eq rfl rfl un140) rfl rfl rfl ?_ | refine W_rd (rd_nil_eq rfl rfl un140) rfl rfl rfl ?_
  refine W_nil ?_
  refine N_then ?_
  refine C_cond rfl (fun h => by first | (cases h; done) | (simp at h; done) | (simp at h; omega)) (fun ht4 => ?_)
  refine C_skip ?_
  refine N_then ?_
  refine C_seq ?_
  refine C_region ?_
  refine W_rd (rd_move rfl) rfl rfl rfl ?_
  refine W_rd (rd_nilCheck rfl) rfl rfl rfl ?_
  refine W_rd (rd_fieldAddr fa224_2 rfl) rfl rfl rfl ?_
  first | refine W_op rfl (op_load 0 rfl rfl sc53 rfl rfl ?_) | refine W_op rfl (op_load 1 rfl rfl sc53 rfl rfl ?_) | refine W_op rfl (op_load 2 rfl rfl sc53 rfl rfl ?_) | refine W_op rfl (op_load 3 rfl rfl sc53 rfl rfl ?_) | refine W_op rfl (op_load 4 rfl rfl sc53 rfl rfl ?_) | refine W_op rfl (op_load 5 rfl rfl sc53 rfl rfl ?_) | refine W_op rfl (op_load 6 rfl rfl sc53 rfl rfl ?_) | refine W_op rfl (op_load 7 rfl rfl sc53 rfl rfl ?_)
  refine W_rd (rd_assign rfl) rfl rfl rfl ?_
  refine W_nil ?_
  refine N_then ?_
  refine C_ret ?_
  repeat (first | refine Rt_then ?_ | refine Rt_block ?_)
  exact Ret1 [0] rfl rfl rfl rfl ⟨rfl, rfl⟩
theorem rByte_c (g : Nat) (A : Option Addr) (cp : Nat) (bs : List UInt8) (s : Rs) (hat : s.at_ ≤ bs.length) (hb : bs.length < 2 ^ 40) :
    Tr Tryz.prog 75 [.ptr g 0] (fun o => RS o 1 A bs.length cp (bs.map .u8)) ([Rdr g A cp bs s]) (fun x H' => x = .u8 (s.byte bs).1 ∧ H' = [Rdr g A cp bs (s.byte bs).2]) := by
  refine Tr_intro Tryz.func75 rfl rfl (fun c hR => ?_)
  refine C_seq ?_
  refine C_region ?_
  refine W_rd (rd_assign rfl) rfl rfl rfl ?_
  refine W_nil ?_
  refine N_then ?_
  refine C_seq ?_
  refine C_seq ?_
  refine C_region ?_
  refine W_rd (rd_move rfl) rfl rfl rfl ?_
  refine W_op rfl (op_call (rLeft_c g A cp bs s hat hb) Tryz.func154 rfl rfl rfl (pickR_spec (is := [0]) rfl) (fun _ _ _ => trivial) rfl ?_)
  rintro xt4 Ht4 ⟨rfl, rfl⟩
  refine W_rd (rd_bin rfl rfl rfl) rfl rfl rfl ?_
  refine W_nil ?_
  refine N_then ?_
  refine C_cond rfl (fun ht5 => ?_) (fun ht5 => ?_)
  ·
    refine C_seq ?_
    refine C_region ?_
    refine W_rd (rd_move rfl) rfl rfl rfl ?_
    refine W_op rfl (op_call (rFail_c g A cp bs s 3) Tryz.func145 rfl rfl rfl (pickR_spec (is := [0]) rfl) (fun _ _ _ => trivial) rfl ?_)
    rintro xt7 Ht7 ⟨rfl, rfl⟩
    refine W_nil ?_
    refine N_then ?_
    refine C_seq ?_
    refine C_region ?_
    refine W_rd (rd_assign rfl) rfl rfl rfl ?_
    refine W_nil ?_
    refine N_then ?_
    refine C_ret ?_
    repeat (first | refine Rt_then ?_ | refine Rt_block ?_)
    have h0 : s.left bs = 0 := by simpa using ht5
    exact Ret1 [0] rfl rfl rfl (by rw [Rs.byte, if_pos h0]) ⟨by rw [Rs.byte, if_pos h0]; rfl, rfl⟩
  ·
    have h0 : ¬ s.left bs = 0 := by simpa using ht5
    have hll := Rs.left_le (bs := bs) (s := s)
    have h63 := hR.le63
    have hlt : s.at_ < bs.length := by omega
    have hld : (bs.map TV.u8)[s.at_]? = some (.u8 (bs[s.at_]?.getD 0)) := by simp [hlt]
    refine C_skip ?_
    refine N_then ?_
    refine C_seq ?_
    refine C_region ?_
    refine W_rd (rd_move rfl) rfl rfl rfl ?_
    refine W_rd (rd_nilCheck rfl) rfl rfl rfl ?_
    refine W_rd (rd_fieldAddr fa224_1 rfl) rfl rfl rfl ?_
    first | refine W_op rfl (op_load 0 rfl rfl sc3 rfl rfl ?_) | refine W_op rfl (op_load 1 rfl rfl sc3 rfl rfl ?_) | refine W_op rfl (op_load 2 rfl rfl sc3 rfl rfl ?_) | refine W_op rfl (op_load 3 rfl rfl sc3 rfl rfl ?_) | refine W_op rfl (op_load 4 rfl rfl sc3 rfl rfl ?_) | refine W_op rfl (op_load 5 rfl rfl sc3 rfl rfl ?_) | refine W_op rfl (op_load 6 rfl rfl sc3 rfl rfl ?_) | refine W_op rfl (op_load 7 rfl rfl sc3 rfl rfl ?_)
    first | refine W_rd (rd_iaddN (y := 1) rfl rfl (by omega)) rfl rfl rfl ?_
    refine W_rd (rd_nilCheck rfl) rfl rfl rfl ?_
    refine W_rd (rd_fieldAddr fa224_1 rfl) rfl rfl rfl ?_
    first | refine W_op rfl (op_st 0 rfl rfl rfl sc3 rfl rfl rfl ?_) | refine W_op rfl (op_st 1 rfl rfl rfl sc3 rfl rfl rfl ?_) | refine W_op rfl (op_st 2 rfl rfl rfl sc3 rfl rfl rfl ?_) | refine W_op rfl (op_st 3 rfl rfl rfl sc3 rfl rfl rfl ?_) | refine W_op rfl (op_st 4 rfl rfl rfl sc3 rfl rfl rfl ?_) | refine W_op rfl (op_st 5 rfl rfl rfl sc3 rfl rfl rfl ?_) | refine W_op rfl (op_st 6 rfl rfl rfl sc3 rfl rfl rfl ?_) | refine W_op rfl (op_st 7 rfl rfl rfl sc3 rfl rfl rfl ?_)
    refine W_nil ?_
    refine N_then ?_
    refine C_seq ?_
    refine C_draw (by kernel_rfl) none _ _ (pickR_spec (is := []) rfl) ?_
    intro c5 hle5 hsub5 back5
    have hB := hsub5.blk 0 rfl
    refine D_take (i := 0) rfl (by kernel_rfl) (rd_move rfl) rfl rfl rfl ?_
    refine D_take (i := 1) rfl (by kernel_rfl) (rd_nilCheck rfl) rfl rfl rfl ?_
    refine D_take (i := 2) rfl (by kernel_rfl) (rd_fieldAddr fa224_0 rfl) rfl rfl rfl ?_
    first | refine D_take (i := 3) rfl (by kernel_rfl) (rd_load rfl hB sc27 rfl) rfl rfl rfl ?_
    refine D_take (i := 4) rfl (by kernel_rfl) (rd_move rfl) rfl rfl rfl ?_
    refine D_take (i := 5) rfl (by kernel_rfl) (rd_nilCheck rfl) rfl rfl rfl ?_
    refine D_take (i := 6) rfl (by kernel_rfl) (rd_fieldAddr fa224_1 rfl) rfl rfl rfl ?_
    first | refine D_take (i := 7) rfl (by kernel_rfl) (rd_load rfl hB sc3 rfl) rfl rfl rfl ?_
    first | refine D_take (i := 8) rfl (by kernel_rfl) (rd_ipred rfl rfl (by omega)) rfl rfl rfl ?_
    refine D_take (i := 9) rfl (by kernel_rfl) (rd_indexN1 sl27 (hR.mono hle5.2) rfl rfl (by omega)) rfl rfl rfl ?_
    refine D_take (i := 10) rfl (by kernel_rfl) (rd_load_el (hR.mono hle5.2) rfl sc5 (x := .u8 (bs[s.at_]?.getD 0)) hld) rfl rfl rfl ?_
    refine D_take (i := 11) rfl (by kernel_rfl) (rd_assign rfl) rfl rfl rfl ?_
    refine D_done (by kernel_rfl) back5 ?_
    refine N_then ?_
    refine C_ret ?_
    repeat (first | refine Rt_then ?_ | refine Rt_block ?_)
    exact Ret1 [0] rfl rfl rfl (by rw [Rs.byte, if_neg h0]) ⟨by rw [Rs.byte, if_neg h0], rfl⟩
theorem rBytes_c (g : Nat) (A : Option Addr) (cp : Nat) (bs : List UInt8) (s : Rs) (m : Nat) (hat : s.at_ ≤ bs.length) (hb : bs.length < 2 ^ 40) (hm : m < 2 ^ 40) :
    Tr Tryz.prog 153 [.ptr g 0, .i64 (m : Int)] (fun o => RS o 1 A bs.length cp (bs.map .u8)) ([Rdr g A cp bs s]) (fun x H' => x = .sl (s.bytesA A bs m) (s.bytes bs m).1.length (s.bytes bs m).1.length ∧ H' = [Rdr g A cp bs (s.bytes bs m).2]) := by
  refine Tr_intro Tryz.func153 rfl rfl (fun c hR => ?_)
  refine C_seq ?_
  refine C_region ?_
  refine W_rd (rd_assign rfl) rfl rfl rfl ?_
  refine W_nil ?_
  refine N_then ?_
  refine C_seq ?_
  refine C_seq ?_
  refine C_region ?_
  refine W_rd (rd_move rfl) rfl rfl rfl ?_
  first | refine W_rd (rd_lt0 rfl rfl) rfl rfl rfl ?_
  refine W_rd (rd_move rfl) rfl rfl rfl ?_
  refine W_gt rfl rfl rfl (op_rd (rd_move rfl) rfl rfl ?_)
  refine W_gt rfl rfl rfl (op_rd (rd_move rfl) rfl rfl ?_)
  refine W_gt rfl rfl rfl (op_call (rLeft_c g A cp bs s hat hb) Tryz.func154 rfl rfl rfl (pickR_spec (is := [0]) rfl) (fun _ _ _ => trivial) rfl ?_)
  rintro xt10 Ht10 ⟨rfl, rfl⟩
  refine W_gt rfl rfl rfl (op_rd (rd_bin rfl rfl rfl) rfl rfl ?_)
  refine W_rd (rd_pick rfl rfl) rfl rfl rfl ?_
  refine W_nil ?_
  refine N_then ?_
  refine C_cond rfl (fun ht12 => ?_) (fun ht12 => ?_)
  ·
    refine C_seq ?_
    refine C_region ?_
    refine W_rd (rd_move rfl) rfl rfl rfl ?_
    refine W_op rfl (op_call (rFail_c g A cp bs s 3) Tryz.func145 rfl rfl rfl (pickR_spec (is := [0]) rfl) (fun _ _ _ => trivial) rfl ?_)
    rintro xt14 Ht14 ⟨rfl, rfl⟩
    refine W_nil ?_
    refine N_then ?_
    refine C_seq ?_
    refine C_region ?_
    refine W_rd (rd_assign rfl) rfl rfl rfl ?_
    refine W_nil ?_
    refine N_then ?_
    refine C_ret ?_
    repeat (first | refine Rt_then ?_ | refine Rt_block ?_)
    have h0 : s.left bs < m := by simpa using ht12
    exact Ret1 [0] rfl rfl rfl (by rw [Rs.bytes, if_pos h0]) ⟨by rw [Rs.bytes, Rs.bytesA, if_pos h0, if_pos h0]; rfl, rfl⟩
  ·
    have h0 : ¬ s.left bs < m := by simpa using ht12
    have hll := Rs.left_le (bs := bs) (s := s)
    have hcap := hR.cap
    refine C_skip ?_
    refine N_then ?_
    refine C_seq ?_
    refine C_seq ?_
    refine C_region ?_
    refine W_rd (rd_move rfl) rfl rfl rfl ?_
    refine W_rd (rd_bin rfl rfl rfl) rfl rfl rfl ?_
    refine W_nil ?_
    refine N_then ?_
    refine C_cond rfl (fun ht16 => ?_) (fun ht16 => ?_)
    ·
      refine C_seq ?_
      refine C_region ?_
      refine W_rd (rd_assign rfl) rfl rfl rfl ?_
      refine W_nil ?_
      refine N_then ?_
      refine C_ret ?_
      repeat (first | refine Rt_then ?_ | refine Rt_block ?_)
      have h1 : m = 0 := by simpa using ht16
      exact Ret1 [0] rfl rfl rfl (by rw [Rs.bytes, if_neg h0, if_pos h1]) ⟨by rw [Rs.bytes, Rs.bytesA, if_neg h0, if_pos h1, if_neg h0, if_pos h1]; rfl, rfl⟩
    ·
      refine C_skip ?_
      refine N_then ?_
      refine C_seq ?_
      refine C_region ?_
      refine W_rd (rd_move rfl) rfl rfl rfl ?_
      refine W_rd (rd_nilCheck rfl) rfl rfl rfl ?_
      refine W_rd (rd_fieldAddr fa224_1 rfl) rfl rfl rfl ?_
      first | refine W_op rfl (op_load 0 rfl rfl sc3 rfl rfl ?_) | refine W_op rfl (op_load 1 rfl rfl sc3 rfl rfl ?_) | refine W_op rfl (op_load 2 rfl rfl sc3 rfl rfl ?_) | refine W_op rfl (op_load 3 rfl rfl sc3 rfl rfl ?_) | refine W_op rfl (op_load 4 rfl rfl sc3 rfl rfl ?_) | refine W_op rfl (op_load 5 rfl rfl sc3 rfl rfl ?_) | refine W_op rfl (op_load 6 rfl rfl sc3 rfl rfl ?_) | refine W_op rfl (op_load 7 rfl rfl sc3 rfl rfl ?_)
      refine W_rd (rd_move rfl) rfl rfl rfl ?_
      first | refine W_rd (rd_iaddN rfl rfl (by omega)) rfl rfl rfl ?_
      refine W_rd (rd_nilCheck rfl) rfl rfl rfl ?_
      refine W_rd (rd_fieldAddr fa224_1 rfl) rfl rfl rfl ?_
      first | refine W_op rfl (op_st 0 rfl rfl rfl sc3 rfl rfl rfl ?_) | refine W_op rfl (op_st 1 rfl rfl rfl sc3 rfl rfl rfl ?_) | refine W_op rfl (op_st 2 rfl rfl rfl sc3 rfl rfl rfl ?_) | refine W_op rfl (op_st 3 rfl rfl rfl sc3 rfl rfl rfl ?_) | refine W_op rfl (op_st 4 rfl rfl rfl sc3 rfl rfl rfl ?_) | refine W_op rfl (op_st 5 rfl rfl rfl sc3 rfl rfl rfl ?_) | refine W_op rfl (op_st 6 rfl rfl rfl sc3 rfl rfl rfl ?_) | refine W_op rfl (op_st 7 rfl rfl rfl sc3 rfl rfl rfl ?_)
      refine W_nil ?_
      refine N_then ?_
      refine C_seq ?_
      refine C_draw (by kernel_rfl) none _ _ (pickR_spec (is := []) rfl) ?_
      intro c7 hle7 hsub7 back7
      have hB := hsub7.blk 0 rfl
      refine D_take (i := 0) rfl (by kernel_rfl) (rd_move rfl) rfl rfl rfl ?_
      refine D_take (i := 1) rfl (by kernel_rfl) (rd_nilCheck rfl) rfl rfl rfl ?_
      refine D_take (i := 2) rfl (by kernel_rfl) (rd_fieldAddr fa224_0 rfl) rfl rfl rfl ?_
      first | refine D_take (i := 3) rfl (by kernel_rfl) (rd_load rfl hB sc27 rfl) rfl rfl rfl ?_
      refine D_take (i := 4) rfl (by kernel_rfl) (rd_move rfl) rfl rfl rfl ?_
      refine D_take (i := 5) rfl (by kernel_rfl) (rd_nilCheck rfl) rfl rfl rfl ?_
      refine D_take (i := 6) rfl (by kernel_rfl) (rd_fieldAddr fa224_1 rfl) rfl rfl rfl ?_
      first | refine D_take (i := 7) rfl (by kernel_rfl) (rd_load rfl hB sc3 rfl) rfl rfl rfl ?_
      refine D_take (i := 8) rfl (by kernel_rfl) (rd_move rfl) rfl rfl rfl ?_
      first | refine D_take (i := 9) rfl (by kernel_rfl) (rd_isubA rfl rfl (by omega)) rfl rfl rfl ?_
      refine D_take (i := 10) rfl (by kernel_rfl) (rd_move rfl) rfl rfl rfl ?_
      refine D_take (i := 11) rfl (by kernel_rfl) (rd_nilCheck rfl) rfl rfl rfl ?_
      refine D_take (i := 12) rfl (by kernel_rfl) (rd_fieldAddr fa224_1 rfl) rfl rfl rfl ?_
      first | refine D_take (i := 13) rfl (by kernel_rfl) (rd_load rfl hB sc3 rfl) rfl rfl rfl ?_
      refine D_take (i := 14) rfl (by kernel_rfl) (rd_move rfl) rfl rfl rfl ?_
      refine D_take (i := 15) rfl (by kernel_rfl) (rd_nilCheck rfl) rfl rfl rfl ?_
      refine D_take (i := 16) rfl (by kernel_rfl) (rd_fieldAddr fa224_1 rfl) rfl rfl rfl ?_
      first | refine D_take (i := 17) rfl (by kernel_rfl) (rd_load rfl hB sc3 rfl) rfl rfl rfl ?_
      refine D_take (i := 18) rfl (by kernel_rfl) (rd_slice3 sl27.und sl27.sizeOf rfl rfl rfl rfl rfl rfl rfl (by omega)) rfl rfl rfl ?_
      refine D_take (i := 19) rfl (by kernel_rfl) (rd_assign rfl) rfl rfl rfl ?_
      refine D_done (by kernel_rfl) back7 ?_
      refine N_then ?_
      refine C_ret ?_
      repeat (first | refine Rt_then ?_ | refine Rt_block ?_)
      have h1 : ¬ m = 0 := by simpa using ht16
      exact Ret1 [0] rfl rfl rfl (by rw [Rs.bytes, if_neg h0, if_neg h1]) ⟨by rw [Rs.bytes_len h0, Rs.bytesA, if_neg h0, if_neg h1]; simp only [Int.toNat_natCast, Nat.add_sub_cancel_left], rfl⟩
theorem rWord_c (g : Nat) (A : Option Addr) (cp : Nat) (bs : List UInt8) (s : Rs) (hat : s.at_ ≤ bs.length) (hb : bs.length < 2 ^ 40) :
    Tr Tryz.prog 112 [.ptr g 0] (fun o => RS o 1 A bs.length cp (bs.map .u8)) ([Rdr g A cp bs s]) (fun x H' => x = .u32 (s.word bs).1 ∧ H' = [Rdr g A cp bs (s.word bs).2]) := by
  refine Tr_intro Tryz.func112 rfl rfl (fun c hR => ?_)
  refine C_seq ?_
  refine C_region ?_
  refine W_rd (rd_assign rfl) rfl rfl rfl ?_
  refine W_nil ?_
  refine N_then ?_
  refine C_seq ?_
  refine C_region ?_
  refine W_rd (rd_move rfl) rfl rfl rfl ?_
  refine W_op rfl (op_call (rBytes_c g A cp bs s 4 hat hb (by decide)) Tryz.func153 rfl rfl rfl (pickR_spec (is := [0]) rfl) (fun o hle _ => hR.mono hle) rfl ?_)
  rintro xt5 Ht5 ⟨rfl, rfl⟩
  have hRb := Rs.bytes_RS 4 hR hat
  refine W_rd (rd_assign rfl) rfl rfl rfl ?_
  refine W_nil ?_
  refine N_then ?_
  refine C_seq ?_
  refine C_seq ?_
  refine C_region ?_
  refine W_rd (rd_move rfl) rfl rfl rfl ?_
  refine W_rd (rd_len sl27.und rfl) rfl rfl rfl ?_
  refine W_rd (rd_bin rfl rfl rfl) rfl rfl rfl ?_
  refine W_nil ?_
  refine N_then ?_
  refine C_cond rfl (fun ht8 => ?_) (fun ht8 => ?_)
  ·
    have h4 := of_decide_eq_true ht8
    refine C_seq ?_
    refine C_region ?_
    refine W_rd (rd_assign rfl) rfl rfl rfl ?_
    refine W_nil ?_
    refine N_then ?_
    refine C_ret ?_
    repeat (first | refine Rt_then ?_ | refine Rt_block ?_)
    refine Ret1 [0] rfl rfl rfl (by rw [Rs.word_small (by omega)]) ⟨by rw [Rs.word_small (by omega)]; rfl, rfl⟩
  ·
    obtain ⟨b0, b1, b2, b3, h4⟩ : ∃ b0 b1 b2 b3, (s.bytes bs 4).1 = [b0, b1, b2, b3] := Rs.four (of_decide_eq_false ht8)
    refine C_skip ?_
    refine N_then ?_
    refine C_seq ?_
    refine C_draw (by kernel_rfl) none _ _ (pickR_spec (is := [0]) rfl) ?_
    intro c4 hle4 hsub4 back4
    have hRc := hRb.mono hle4.2
    refine D_take (i := 0) rfl (by kernel_rfl) (rd_move rfl) rfl rfl rfl ?_
    refine D_take (i := 1) rfl (by kernel_rfl) (rd_indexI1 sl27 hRc rfl rfl rfl ⟨by decide, by rw [h4]; simp⟩) rfl rfl rfl ?_
    refine D_take (i := 2) rfl (by kernel_rfl) (rd_load_el hRc rfl sc5 (x := .u8 b0) (by rw [h4]; rfl)) rfl rfl rfl ?_
    refine D_take (i := 3) rfl (by kernel_rfl) (rd_conv un5 un40 rfl rfl) rfl rfl rfl ?_
    refine D_take (i := 4) rfl (by kernel_rfl) (rd_move rfl) rfl rfl rfl ?_
    refine D_take (i := 5) rfl (by kernel_rfl) (rd_indexI1 sl27 hRc rfl rfl rfl ⟨by decide, by rw [h4]; simp⟩) rfl rfl rfl ?_
    refine D_take (i := 6) rfl (by kernel_rfl) (rd_load_el hRc rfl sc5 (x := .u8 b1) (by rw [h4]; rfl)) rfl rfl rfl ?_
    refine D_take (i := 7) rfl (by kernel_rfl) (rd_conv un5 un40 rfl rfl) rfl rfl rfl ?_
    refine D_take (i := 8) rfl (by kernel_rfl) (rd_shift rfl rfl rfl (.inl rfl) rfl (by omega)) rfl rfl rfl ?_
    refine D_take (i := 9) rfl (by kernel_rfl) (rd_bin rfl rfl rfl) rfl rfl rfl ?_
    refine D_take (i := 10) rfl (by kernel_rfl) (rd_move rfl) rfl rfl rfl ?_
    refine D_take (i := 11) rfl (by kernel_rfl) (rd_indexI1 sl27 hRc rfl rfl rfl ⟨by decide, by rw [h4]; simp⟩) rfl rfl rfl ?_
    refine D_take (i := 12) rfl (by kernel_rfl) (rd_load_el hRc rfl sc5 (x := .u8 b2) (by rw [h4]; rfl)) rfl rfl rfl ?_
    refine D_take (i := 13) rfl (by kernel_rfl) (rd_conv un5 un40 rfl rfl) rfl rfl rfl ?_
    refine D_take (i := 14) rfl (by kernel_rfl) (rd_shift rfl rfl rfl (.inl rfl) rfl (by omega)) rfl rfl rfl ?_
    refine D_take (i := 15) rfl (by kernel_rfl) (rd_bin rfl rfl rfl) rfl rfl rfl ?_
    refine D_take (i := 16) rfl (by kernel_rfl) (rd_move rfl) rfl rfl rfl ?_
    refine D_take (i := 17) rfl (by kernel_rfl) (rd_indexI1 sl27 hRc rfl rfl rfl ⟨by decide, by rw [h4]; simp⟩) rfl rfl rfl ?_
    refine D_take (i := 18) rfl (by kernel_rfl) (rd_load_el hRc rfl sc5 (x := .u8 b3) (by rw [h4]; rfl)) rfl rfl rfl ?_
    refine D_take (i := 19) rfl (by kernel_rfl) (rd_conv un5 un40 rfl rfl) rfl rfl rfl ?_
    refine D_take (i := 20) rfl (by kernel_rfl) (rd_shift rfl rfl rfl (.inl rfl) rfl (by omega)) rfl rfl rfl ?_
    refine D_take (i := 21) rfl (by kernel_rfl) (rd_bin rfl rfl rfl) rfl rfl rfl ?_
    refine D_take (i := 22) rfl (by kernel_rfl) (rd_assign rfl) rfl rfl rfl ?_
    refine D_done (by kernel_rfl) back4 ?_
    refine N_then ?_
    refine C_ret ?_
    repeat (first | refine Rt_then ?_ | refine Rt_block ?_)
    refine Ret1 [0] rfl rfl rfl (by rw [Rs.word_four h4]) ⟨by rw [Rs.word_four h4]; rfl, rfl⟩
theorem rEnd_c (g : Nat) (A : Option Addr) (cp : Nat) (bs : List UInt8) (s : Rs) (hat : s.at_ ≤ bs.length) (hb : bs.length < 2 ^ 40) :
    Tr Tryz.prog 80 [.ptr g 0] (fun o => True) ([Rdr g A cp bs s]) (fun x H' => x = .i64 (s.end_ bs) ∧ H' = [Rdr g A cp bs s]) := by
  refine Tr_intro Tryz.func80 rfl rfl (fun c hR => ?_)
  refine C_seq ?_
  refine C_region ?_
  refine W_rd (rd_assign rfl) rfl rfl rfl ?_
  refine W_nil ?_
  refine N_then ?_
  refine C_seq ?_
  refine C_seq ?_
  refine C_draw (by kernel_rfl) none _ _ (pickR_spec (is := []) rfl) ?_
  intro c1 hle1 hsub1 back1
  have hB := hsub1.blk 0 rfl
  refine D_take (i := 0) rfl (by kernel_rfl) (rd_move rfl) rfl rfl rfl ?_
  first | refine D_take (i := 1) rfl (by kernel_rfl) (rd_ptr_ne rfl rfl un140) rfl rfl rfl ?_ | refine D_take (i := 1) rfl (by kernel_rfl) (rd_nil_ne rfl rfl un140) rfl rfl rfl ?_
  refine D_take (i := 2) rfl (by kernel_rfl) (rd_move rfl) rfl rfl rfl ?_
  refine D_takeg (i := 3) rfl (by kernel_rfl) (rd_move rfl) rfl rfl rfl rfl rfl ?_
  refine D_takeg (i := 4) rfl (by kernel_rfl) (rd_nilCheck rfl) rfl rfl rfl rfl rfl ?_
  refine D_takeg (i := 5) rfl (by kernel_rfl) (rd_fieldAddr fa224_2 rfl) rfl rfl rfl rfl rfl ?_
  first | refine D_takeg (i := 6) rfl (by kernel_rfl) (rd_load rfl hB sc53 rfl) rfl rfl rfl rfl rfl ?_
  refine D_takeg (i := 7) rfl (by kernel_rfl) (rd_bin rfl rfl rfl) rfl rfl rfl rfl rfl ?_
  refine D_take (i := 8) rfl (by kernel_rfl) (rd_pick rfl rfl) rfl rfl rfl ?_
  refine D_take (i := 9) rfl (by kernel_rfl) (rd_move rfl) rfl rfl rfl ?_
  refine D_split (dd := 12) rfl (fun ht12 => ?_) (fun ht12 => ?_)
  ·
    have he := of_decide_eq_true ht12
    refine D_takeg (i := 10) rfl (by kernel_rfl) (rd_move rfl) rfl rfl rfl rfl rfl ?_
    refine D_takeg (i := 11) rfl (by kernel_rfl) (rd_nilCheck rfl) rfl rfl rfl rfl rfl ?_
    refine D_takeg (i := 12) rfl (by kernel_rfl) (rd_fieldAddr fa224_1 rfl) rfl rfl rfl rfl rfl ?_
    first | refine D_takeg (i := 13) rfl (by kernel_rfl) (rd_load rfl hB sc3 rfl) rfl rfl rfl rfl rfl ?_
    refine D_takeg (i := 14) rfl (by kernel_rfl) (rd_move rfl) rfl rfl rfl rfl rfl ?_
    refine D_takeg (i := 15) rfl (by kernel_rfl) (rd_nilCheck rfl) rfl rfl rfl rfl rfl ?_
    refine D_takeg (i := 16) rfl (by kernel_rfl) (rd_fieldAddr fa224_0 rfl) rfl rfl rfl rfl rfl ?_
    first | refine D_takeg (i := 17) rfl (by kernel_rfl) (rd_load rfl hB sc27 rfl) rfl rfl rfl rfl rfl ?_
    refine D_takeg (i := 18) rfl (by kernel_rfl) (rd_len sl27.und rfl) rfl rfl rfl rfl rfl ?_
    refine D_takeg (i := 19) rfl (by kernel_rfl) (rd_bin rfl rfl rfl) rfl rfl rfl rfl rfl ?_
    refine D_take (i := 20) rfl (by kernel_rfl) (rd_pick rfl rfl) rfl rfl rfl ?_
    refine D_done (by kernel_rfl) back1 ?_
    refine N_then ?_
    refine C_cond rfl (fun ht23 => ?_) (fun ht23 => ?_)
    ·
      refine C_seq ?_
      refine C_region ?_
      refine W_rd (rd_assign rfl) rfl rfl rfl ?_
      refine W_nil ?_
      refine N_then ?_
      refine C_ret ?_
      repeat (first | refine Rt_then ?_ | refine Rt_block ?_)
      refine Ret1 [0] rfl rfl rfl rfl ⟨?_, rfl⟩
      unfold Rs.end_
      rw [if_pos ⟨he, by simpa using ht23⟩]
    ·
      refine C_skip ?_
      refine N_then ?_
      refine C_seq ?_
      refine C_region ?_
      refine W_rd (rd_move rfl) rfl rfl rfl ?_
      refine W_op rfl (op_call (rErr_c g A cp bs s) Tryz.func143 rfl rfl rfl (pickR_spec (is := [0]) rfl) (fun _ _ _ => trivial) rfl ?_)
      rintro xt25 Ht25 ⟨rfl, rfl⟩
      refine W_rd (rd_assign rfl) rfl rfl rfl ?_
      refine W_nil ?_
      refine N_then ?_
      refine C_ret ?_
      repeat (first | refine Rt_then ?_ | refine Rt_block ?_)
      refine Ret1 [0] rfl rfl rfl rfl ⟨?_, rfl⟩
      unfold Rs.end_
      rw [if_neg (fun h => absurd h.2 (by simpa using ht23))]
  ·
    have he := of_decide_eq_false ht12
    refine D_takef (i := 10) rfl (by kernel_rfl) rfl rfl rfl rfl rfl (by first | exact .inl rfl | exact .inr rfl) ?_
    refine D_takef (i := 11) rfl (by kernel_rfl) rfl rfl rfl rfl rfl (by first | exact .inl rfl | exact .inr rfl) ?_
    refine D_takef (i := 12) rfl (by kernel_rfl) rfl rfl rfl rfl rfl (by first | exact .inl rfl | exact .inr rfl) ?_
    refine D_takef (i := 13) rfl (by kernel_rfl) rfl rfl rfl rfl rfl (by first | exact .inl rfl | exact .inr rfl) ?_
    refine D_takef (i := 14) rfl (by kernel_rfl) rfl rfl rfl rfl rfl (by first | exact .inl rfl | exact .inr rfl) ?_
    refine D_takef (i := 15) rfl (by kernel_rfl) rfl rfl rfl rfl rfl (by first | exact .inl rfl | exact .inr rfl) ?_
    refine D_takef (i := 16) rfl (by kernel_rfl) rfl rfl rfl rfl rfl (by first | exact .inl rfl | exact .inr rfl) ?_
    refine D_takef (i := 17) rfl (by kernel_rfl) rfl rfl rfl rfl rfl (by first | exact .inl rfl | exact .inr rfl) ?_
    refine D_takef (i := 18) rfl (by kernel_rfl) rfl rfl rfl rfl rfl (by first | exact .inl rfl | exact .inr rfl) ?_
    refine D_takef (i := 19) rfl (by kernel_rfl) rfl rfl rfl rfl rfl (by first | exact .inl rfl | exact .inr rfl) ?_
    refine D_take (i := 20) rfl (by kernel_rfl) (rd_pick rfl rfl) rfl rfl rfl ?_
    refine D_done (by kernel_rfl) back1 ?_
    refine N_then ?_
    refine C_cond rfl (fun h => by cases h) (fun _ => ?_)
    refine C_skip ?_
    refine N_then ?_
    refine C_seq ?_
    refine C_region ?_
    refine W_rd (rd_move rfl) rfl rfl rfl ?_
    refine W_op rfl (op_call (rErr_c g A cp bs s) Tryz.func143 rfl rfl rfl (pickR_spec (is := [0]) rfl) (fun _ _ _ => trivial) rfl ?_)
    rintro xt25 Ht25 ⟨rfl, rfl⟩
    refine W_rd (rd_assign rfl) rfl rfl rfl ?_
    refine W_nil ?_
    refine N_then ?_
    refine C_ret ?_
    repeat (first | refine Rt_then ?_ | refine Rt_block ?_)
    refine Ret1 [0] rfl rfl rfl rfl ⟨?_, rfl⟩
    unfold Rs.end_
    rw [if_neg (fun h => he h.1)]
end Go.Hb.Wk6
