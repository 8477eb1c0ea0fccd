/- A part of the proofs of this seat: rules of a logic of owned and of lent memory, what functions compute, or their walks. -/
import Derived.Test.YtclediplagkblaaGreatCore12
import Derived.Test.YtclediplagkblaaGreatProg
import Derived.Test.YtclediplagkblaaGreatSp4
import Derived.Test.YtclediplagkblaaGreatWk4
set_option linter.unusedVariables false
set_option linter.unusedSimpArgs false
namespace Go.Hb.Wk5
open Go Go.Proofs
open Go.Hb.Wk1 Go.Hb.Wk2 Go.Hb.Wk3 Go.Hb.Wk4
theorem ze157 : Zero Tryz.prog 157 ([.sl none 0 0]) := Zero.ofK (by kernel_rfl)
theorem ze173 : Zero Tryz.prog 173 ([.str [], .i64 0, .i64 0]) := Zero.ofK (by kernel_rfl)
theorem ze5 : Zero Tryz.prog 5 ([.u8 0]) := Zero.ofK (by kernel_rfl)
theorem ze67 : Zero Tryz.prog 67 ([.str [], .u8 0, .sl none 0 0]) := Zero.ofK (by kernel_rfl)
theorem ag67 : Aggr Tryz.prog 67 3 := ⟨fun _ => by kernel_rfl, fun _ => by kernel_rfl⟩
theorem ag71 : Aggr Tryz.prog 71 2 := ⟨fun _ => by kernel_rfl, fun _ => by kernel_rfl⟩
theorem fa67_0 : FA Tryz.prog 67 0 0 := fun _ _ => by kernel_rfl
theorem fa71_0 : FA Tryz.prog 71 0 0 := fun _ _ => by kernel_rfl
theorem fa71_1 : FA Tryz.prog 71 1 1 := fun _ _ => by kernel_rfl
theorem la157 : Lay Tryz.prog 157 ([.sl none 0 0]) [(0, 1)] := Lay.ofK ze157 (by kernel_rfl)
theorem la173 : Lay Tryz.prog 173 ([.str [], .i64 0, .i64 0]) [(0, 1), (1, 1), (2, 1)] := Lay.ofK ze173 (by kernel_rfl)
theorem sc3 : Scal Tryz.prog 3 := ⟨fun _ => by kernel_rfl, fun _ => by kernel_rfl⟩
theorem sc9 : Scal Tryz.prog 9 := ⟨fun _ => by kernel_rfl, fun _ => by kernel_rfl⟩
theorem sl170 : SlT Tryz.prog 170 173 3 32 := SlT.ofB (by kernel_rfl) rfl
theorem sl27 : SlT Tryz.prog 27 5 1 1 := SlT.ofB (by kernel_rfl) rfl
theorem sl63 : SlT Tryz.prog 63 67 3 48 := SlT.ofB (by kernel_rfl) rfl
theorem un27 : Tryz.prog.underlying 27 = some (.slice 5) := by kernel_rfl
theorem un3 : Tryz.prog.underlying 3 = some (.int .i64) := by kernel_rfl
theorem un40 : Tryz.prog.underlying 40 = some (.int .u32) := by kernel_rfl
theorem un5 : Tryz.prog.underlying 5 = some (.int .u8) := by kernel_rfl
set_option maxHeartbeats 2000000 in
theorem close_c (A : Option Addr) (cp : Nat) (l : List Frm) (a b : Int) :
    Tr Tryz.prog 29 [.sl A l.length cp, .agg [.i64 a, .i64 b]] (fun o => RS o 3 A l.length cp (l.flatMap Frm.tv) ∧ ∀ f ∈ l, RS o 1 f.A f.pl.length f.cp (f.pl.map .u8)) ([]) (fun x H' => ((closeB l a b).1 = 0 ∧ ∃ A cp, x = .tup [.sl A (closeB l a b).2.length cp, .i64 0] ∧ H' = [Row 1 5 A (closeB l a b).2.length cp ((closeB l a b).2.map .u8)]) ∨ ((closeB l a b).1 ≠ 0 ∧ x = .tup [.sl none 0 0, .i64 (closeB l a b).1] ∧ H' = [])) := by
  refine Tr_intro Tryz.func29 rfl rfl (fun c hR => ?_)
  obtain ⟨hR, hP⟩ := hR
  have h63 := hR.le63
  refine C_seq ?_
  refine C_region ?_
  refine W_op rfl (op_box rfl (by first | exact .inl rfl | exact .inr ⟨_, rfl⟩) rfl ?_)
  intro gt3
  refine W_rd (rd_assign rfl) rfl rfl rfl ?_
  refine W_rd (rd_assign rfl) rfl rfl rfl ?_
  refine W_nil ?_
  refine N_then ?_
  refine C_seq ?_
  refine C_region ?_
  first | refine W_op rfl (op_loads 0 rfl rfl ag71 rfl rfl rfl ?_) | refine W_op rfl (op_loads 1 rfl rfl ag71 rfl rfl rfl ?_) | refine W_op rfl (op_loads 2 rfl rfl ag71 rfl rfl rfl ?_) | refine W_op rfl (op_loads 3 rfl rfl ag71 rfl rfl rfl ?_) | refine W_op rfl (op_loads 4 rfl rfl ag71 rfl rfl rfl ?_) | refine W_op rfl (op_loads 5 rfl rfl ag71 rfl rfl rfl ?_) | refine W_op rfl (op_loads 6 rfl rfl ag71 rfl rfl rfl ?_) | refine W_op rfl (op_loads 7 rfl rfl ag71 rfl rfl rfl ?_)
  refine W_op rfl (op_call (within_c a b) Tryz.func96 rfl rfl rfl (pickR_spec (is := []) rfl) (fun _ _ _ => trivial) rfl ?_)
  rintro xt17 Ht17 ⟨rfl, rfl⟩
  first | refine W_op rfl (op_sts 0 rfl rfl rfl ag71 rfl rfl rfl rfl ?_) | refine W_op rfl (op_sts 1 rfl rfl rfl ag71 rfl rfl rfl rfl ?_) | refine W_op rfl (op_sts 2 rfl rfl rfl ag71 rfl rfl rfl rfl ?_) | refine W_op rfl (op_sts 3 rfl rfl rfl ag71 rfl rfl rfl rfl ?_) | refine W_op rfl (op_sts 4 rfl rfl rfl ag71 rfl rfl rfl rfl ?_) | refine W_op rfl (op_sts 5 rfl rfl rfl ag71 rfl rfl rfl rfl ?_) | refine W_op rfl (op_sts 6 rfl rfl rfl ag71 rfl rfl rfl rfl ?_) | refine W_op rfl (op_sts 7 rfl rfl rfl ag71 rfl rfl rfl rfl ?_)
  refine W_nil ?_
  refine N_then ?_
  refine C_seq ?_
  refine C_seq ?_
  refine C_region ?_
  refine W_rd (rd_move rfl) rfl rfl rfl ?_
  refine W_rd (rd_len sl63.und rfl) rfl rfl rfl ?_
  refine W_rd (rd_fieldAddr fa71_0 rfl) rfl rfl rfl ?_
  first | refine W_op rfl (op_load 0 rfl rfl sc3 rfl rfl ?_) | refine W_op rfl (op_load 1 rfl rfl sc3 rfl rfl ?_) | refine W_op rfl (op_load 2 rfl rfl sc3 rfl rfl ?_) | refine W_op rfl (op_load 3 rfl rfl sc3 rfl rfl ?_) | refine W_op rfl (op_load 4 rfl rfl sc3 rfl rfl ?_) | refine W_op rfl (op_load 5 rfl rfl sc3 rfl rfl ?_) | refine W_op rfl (op_load 6 rfl rfl sc3 rfl rfl ?_) | refine W_op rfl (op_load 7 rfl rfl sc3 rfl rfl ?_)
  refine W_rd (rd_bin rfl rfl rfl) rfl rfl rfl ?_
  refine W_nil ?_
  refine N_then ?_
  refine C_cond rfl (fun ht22 => ?_) (fun ht22 => ?_)
  ·
    refine C_seq ?_
    refine C_region ?_
    refine W_rd (rd_assign rfl) rfl rfl rfl ?_
    refine W_rd (rd_assign rfl) rfl rfl rfl ?_
    refine W_nil ?_
    refine N_then ?_
    refine C_ret ?_
    repeat (first | refine Rt_then ?_ | refine Rt_block ?_)
    have hz : closeB l a b = (7, []) := (by unfold closeB; rw [if_pos (of_decide_eq_true ht22)])
    exact Ret2 [] rfl rfl rfl rfl rfl (.inr ⟨by rw [hz]; decide, by rw [hz], rfl⟩)
  ·
    refine C_skip ?_
    refine N_then ?_
    refine C_seq ?_
    refine C_region ?_
    refine W_rd (rd_build la157 rfl rfl rfl) rfl rfl rfl ?_
    refine W_op rfl (op_box rfl (by first | exact .inl rfl | exact .inr ⟨_, rfl⟩) rfl ?_)
    intro gt24
    refine W_rd (rd_assign rfl) rfl rfl rfl ?_
    refine W_nil ?_
    refine N_then ?_
    refine C_seq ?_
    refine C_nil_row 1 5 ?_
    refine C_pack [1, 0] rfl (wr_mk (bs := []) rfl rfl) ?_
    refine C_region ?_
    refine W_rd (rd_move rfl) rfl rfl rfl ?_
    refine W_op rfl (op_slice sl27 ze5 rfl rfl rfl rfl rfl rfl (by omega) rfl ?_)
    intro At26 hAt26
    first | refine W_op rfl (op_mark 0 un27 un5 rfl rfl (by assumption) rfl ?_) | refine W_op rfl (op_mark 1 un27 un5 rfl rfl (by assumption) rfl ?_) | refine W_op rfl (op_mark 2 un27 un5 rfl rfl (by assumption) rfl ?_) | refine W_op rfl (op_mark 3 un27 un5 rfl rfl (by assumption) rfl ?_)
    refine W_op rfl (op_call (wPut_c gt24 [] magic At26 6 (by decide)) Tryz.func97 rfl rfl rfl (pickR_spec (is := [1]) rfl) (fun o hle hsub => hsub.row 0 rfl) rfl ?_)
    rintro xt28 Ht28 ⟨rfl, rfl⟩
    refine W_nil ?_
    refine N_then ?_
    refine C_seq ?_
    refine C_region ?_
    refine W_rd (rd_assign rfl) rfl rfl rfl ?_
    refine W_nil ?_
    refine N_then ?_
    refine C_seq ?_
    refine C_seq ?_
    refine C_nil_row 3 173 ?_
    refine C_pick [1, 0, 1] rfl ?_
    refine C_region ?_
    refine W_rd (rd_move rfl) rfl rfl rfl ?_
    refine W_rd (rd_len sl63.und rfl) rfl rfl rfl ?_
    refine W_rd (rd_move rfl) rfl rfl rfl ?_
    refine W_nil ?_
    refine N_then ?_
    refine C_block ?_
    refine C_loop (γ := CG) (fun g => CI l (min (max b 0) 1048576) g) (fun g => [(3, .ptr gt3 0), (6, .ptr gt24 0), (7, .sl g.A g.es.length g.cp), (29, .sl A l.length cp), (30, .i64 (l.length : Int)), (31, .i64 (g.k : Int))]) (fun g => [Wr gt24 g.out, Row 3 173 g.A g.es.length g.cp (g.es.flatMap Ent.tv), Blk gt3 71 [.i64 (min (max a 0) 1000), .i64 (min (max b 0) 1048576)]]) (fun g => l.length - g.k) ⟨0, magic, [], none, 0⟩ ?hI0 (subL.spec ⟨rfl, rfl, rfl, rfl, rfl, rfl, trivial⟩) (List.Perm.refl _) ?_
    case hI0 => exact CI.init l _
    rintro g hI0
    refine C_seq ?_
    refine C_region ?_
    refine W_rd (rd_bin rfl rfl rfl) rfl rfl rfl ?_
    refine W_nil ?_
    refine N_then ?_
    refine C_seq ?_
    refine C_cond rfl (fun ht32 => ?_) (fun ht32 => ?_)
    ·
      refine C_skip ?_
      refine N_then ?_
      refine C_seq ?_
      refine C_block ?_
      refine C_seq ?_
      have hk : g.k < l.length := (by simp at ht32; omega)
      obtain ⟨f, he⟩ : ∃ e, l[g.k]? = some e := ⟨l[g.k], by simp [hk]⟩
      have hlen : l.length ≤ 1000 := (by simp at ht22; omega)
      have hel := hI0.el
      have hol := hI0.ol
      refine C_region ?_
      refine W_rd (rd_indexN sl63 hR rfl rfl (by omega)) rfl rfl rfl ?_
      refine W_rd (rd_loads_el hR rfl ag67 (flat_get (f := Frm.tv) (fun _ => rfl) he) rfl (by omega)) rfl rfl rfl ?_
      refine W_op rfl (op_alloc ze67 rfl ?_)
      intro gt9
      first | refine W_op rfl (op_sts 0 rfl rfl rfl ag67 rfl rfl rfl rfl ?_) | refine W_op rfl (op_sts 1 rfl rfl rfl ag67 rfl rfl rfl rfl ?_) | refine W_op rfl (op_sts 2 rfl rfl rfl ag67 rfl rfl rfl rfl ?_) | refine W_op rfl (op_sts 3 rfl rfl rfl ag67 rfl rfl rfl rfl ?_) | refine W_op rfl (op_sts 4 rfl rfl rfl ag67 rfl rfl rfl rfl ?_) | refine W_op rfl (op_sts 5 rfl rfl rfl ag67 rfl rfl rfl rfl ?_) | refine W_op rfl (op_sts 6 rfl rfl rfl ag67 rfl rfl rfl rfl ?_) | refine W_op rfl (op_sts 7 rfl rfl rfl ag67 rfl rfl rfl rfl ?_)
      refine W_nil ?_
      refine N_then ?_
      refine C_seq ?_
      refine C_region ?_
      first | refine W_op rfl (op_loads 0 rfl rfl ag67 rfl rfl rfl ?_) | refine W_op rfl (op_loads 1 rfl rfl ag67 rfl rfl rfl ?_) | refine W_op rfl (op_loads 2 rfl rfl ag67 rfl rfl rfl ?_) | refine W_op rfl (op_loads 3 rfl rfl ag67 rfl rfl rfl ?_) | refine W_op rfl (op_loads 4 rfl rfl ag67 rfl rfl rfl ?_) | refine W_op rfl (op_loads 5 rfl rfl ag67 rfl rfl rfl ?_) | refine W_op rfl (op_loads 6 rfl rfl ag67 rfl rfl rfl ?_) | refine W_op rfl (op_loads 7 rfl rfl ag67 rfl rfl rfl ?_)
      refine W_op rfl (op_call (framePut_c f.nm f.kd f.A f.cp f.pl) Tryz.func98 rfl rfl rfl (pickR_spec (is := []) rfl) (fun o hle hsub => (hP f (List.mem_of_getElem? he)).mono hle) rfl ?_)
      rintro xt37 Ht37 (⟨h0, A1, c1, rfl, rfl⟩ | ⟨h0, rfl, rfl⟩)
      ·
        have hfl := frameB_length f.nm f.kd f.pl
        obtain ⟨hn1, hn2, hk6, hp⟩ := frameChk_ok h0
        refine W_rd (rd_move rfl) rfl rfl rfl ?_
        refine W_rd (rd_extract rfl rfl) rfl rfl rfl ?_
        refine W_rd (rd_extract rfl rfl) rfl rfl rfl ?_
        refine W_rd (rd_assign rfl) rfl rfl rfl ?_
        refine W_rd (rd_assign rfl) rfl rfl rfl ?_
        refine W_nil ?_
        refine N_then ?_
        refine C_seq ?_
        refine C_seq ?_
        refine C_region ?_
        refine W_rd (rd_move rfl) rfl rfl rfl ?_
        refine W_rd (rd_bin rfl rfl rfl) rfl rfl rfl ?_
        refine W_nil ?_
        refine N_then ?_
        refine C_cond rfl (fun h => by first | (cases h; done) | (simp at h; done) | (simp at h; omega)) (fun ht41 => ?_)
        refine C_skip ?_
        refine N_then ?_
        refine C_seq ?_
        refine C_seq ?_
        refine C_draw (by kernel_rfl) none _ _ (pickR_spec (is := [2]) rfl) ?_
        intro c13 hle13 hsub13 back13
        have hB := hsub13.blk 3 rfl
        refine D_take (i := 0) rfl (by kernel_rfl) (rd_move rfl) rfl rfl rfl ?_
        refine D_take (i := 2) rfl (by kernel_rfl) (rd_move rfl) rfl rfl rfl ?_
        refine D_take (i := 3) rfl (by kernel_rfl) (rd_len sl27.und rfl) rfl rfl rfl ?_
        refine D_take (i := 5) rfl (by kernel_rfl) (rd_fieldAddr fa71_1 rfl) rfl rfl rfl ?_
        first | refine D_take (i := 6) rfl (by kernel_rfl) (rd_load rfl hB sc3 rfl) rfl rfl rfl ?_
        refine D_one (i := 1) (by kernel_rfl) rfl rfl (op_call (wLen_c gt24 g.out) Tryz.func99 rfl rfl rfl (pickR_spec (is := [0]) rfl) (fun _ _ _ => trivial) rfl ?_)
        rintro xt44 Ht44 ⟨rfl, rfl⟩
        refine D_take (i := 4) rfl (by kernel_rfl) (rd_iadd rfl rfl (by omega)) rfl rfl rfl ?_
        refine D_take (i := 7) rfl (by kernel_rfl) (rd_bin rfl rfl rfl) rfl rfl rfl ?_
        refine D_done (by kernel_rfl) back13 ?_
        refine N_then ?_
        refine C_cond rfl (fun ht50 => ?_) (fun ht50 => ?_)
        ·
          refine C_seq ?_
          refine C_region ?_
          refine W_rd (rd_assign rfl) rfl rfl rfl ?_
          refine W_rd (rd_assign rfl) rfl rfl rfl ?_
          refine W_nil ?_
          refine N_then ?_
          refine C_ret ?_
          repeat (first | refine Rt_then ?_ | refine Rt_block ?_)
          have hz : closeB l a b = (6, []) := (by unfold closeB; rw [if_neg (of_decide_eq_false ht22)]; exact hI0.big he h0 (of_decide_eq_true ht50))
          exact Ret2 [] rfl rfl rfl rfl rfl (.inr ⟨by rw [hz]; decide, by rw [hz], rfl⟩)
        ·
          refine C_skip ?_
          refine N_then ?_
          refine C_seq ?_
          refine C_draw (by kernel_rfl) none _ _ (pickR_spec (is := [0, 2]) rfl) ?_
          intro c15 hle15 hsub15 back15
          have hB := hsub15.blk 1 rfl
          refine D_take (i := 0) rfl (by kernel_rfl) (rd_move rfl) rfl rfl rfl ?_
          refine D_take (i := 1) rfl (by kernel_rfl) (rd_fieldAddr fa67_0 rfl) rfl rfl rfl ?_
          first | refine D_take (i := 2) rfl (by kernel_rfl) (rd_load rfl hB sc9 rfl) rfl rfl rfl ?_
          refine D_take (i := 3) rfl (by kernel_rfl) (rd_move rfl) rfl rfl rfl ?_
          refine D_take (i := 5) rfl (by kernel_rfl) (rd_move rfl) rfl rfl rfl ?_
          refine D_take (i := 6) rfl (by kernel_rfl) (rd_len sl27.und rfl) rfl rfl rfl ?_
          refine D_one (i := 4) (by kernel_rfl) rfl rfl (op_call (wLen_c gt24 g.out) Tryz.func99 rfl rfl rfl (pickR_spec (is := [0]) rfl) (fun _ _ _ => trivial) rfl ?_)
          rintro xt55 Ht55 ⟨rfl, rfl⟩
          refine D_take (i := 7) rfl (by kernel_rfl) (rd_build la173 rfl rfl rfl) rfl rfl rfl ?_
          refine D_one (i := 8) (by kernel_rfl) rfl rfl (op_slice sl170 ze173 rfl rfl rfl rfl rfl rfl (by omega) rfl ?_)
          intro At59 hAt59
          refine D_one (i := 9) (by kernel_rfl) rfl rfl (op_append 2 sl170 rfl rfl rfl (Src.ofRow 0 rfl rfl) rfl (by omega) rfl ?_)
          intro At60 ct60 Ht60 hHt60; obtain rfl := Option.some.inj hHt60
          refine D_take (i := 10) rfl (by kernel_rfl) (rd_assign rfl) rfl rfl rfl ?_
          refine D_done (by kernel_rfl) back15 ?_
          refine N_then ?_
          refine C_region ?_
          refine W_rd (rd_move rfl) rfl rfl rfl ?_
          refine W_rd (rd_move rfl) rfl rfl rfl ?_
          refine W_op rfl (op_call (wPut_c gt24 g.out (frameB f.nm f.kd f.pl) A1 c1 (by omega)) Tryz.func97 rfl rfl rfl (pickR_spec (is := [1]) rfl) (fun o hle hsub => hsub.row 2 rfl) rfl ?_)
          rintro xt63 Ht63 ⟨rfl, rfl⟩
          refine W_nil ?_
          refine N_block ?_
          refine N_then ?_
          refine C_region ?_
          refine W_rd (rd_iadd rfl rfl (by omega)) rfl rfl rfl ?_
          refine W_rd (rd_move rfl) rfl rfl rfl ?_
          refine W_nil ?_
          refine N_pick [0, 1, 3] rfl (N_round ⟨g.k + 1, g.out ++ frameB f.nm f.kd f.pl, g.es ++ [Ent.mk f.nm (g.out.length : Int) ((frameB f.nm f.kd f.pl).length : Int)], At60, ct60⟩ (hI0.step he h0 (by omega) (of_decide_eq_false ht50)) (by simp only []; omega) (subL.spec ⟨rfl, rfl, (by simp only [List.length_append]; rfl), rfl, rfl, rfl, trivial⟩) (by simp [Ent.tv]))
      ·
        refine W_rd (rd_move rfl) rfl rfl rfl ?_
        refine W_rd (rd_extract rfl rfl) rfl rfl rfl ?_
        refine W_rd (rd_extract rfl rfl) rfl rfl rfl ?_
        refine W_rd (rd_assign rfl) rfl rfl rfl ?_
        refine W_rd (rd_assign rfl) rfl rfl rfl ?_
        refine W_nil ?_
        refine N_then ?_
        refine C_seq ?_
        refine C_seq ?_
        refine C_region ?_
        refine W_rd (rd_move rfl) rfl rfl rfl ?_
        refine W_rd (rd_bin rfl rfl rfl) rfl rfl rfl ?_
        refine W_nil ?_
        refine N_then ?_
        refine C_cond rfl (fun ht41 => ?_) (fun h => by first | (cases h; done) | (simp at h; done) | (simp at h; omega))
        refine C_seq ?_
        refine C_region ?_
        refine W_rd (rd_move rfl) rfl rfl rfl ?_
        refine W_rd (rd_assign rfl) rfl rfl rfl ?_
        refine W_rd (rd_assign rfl) rfl rfl rfl ?_
        refine W_nil ?_
        refine N_then ?_
        refine C_ret ?_
        repeat (first | refine Rt_then ?_ | refine Rt_block ?_)
        have hz : closeB l a b = (f.chk, []) := (by unfold closeB; rw [if_neg (of_decide_eq_false ht22)]; exact hI0.err he h0)
        exact Ret2 [] rfl rfl rfl rfl rfl (.inr ⟨by rw [hz]; exact h0, by rw [hz]; rfl, rfl⟩)
    ·
      have hkl : g.k = l.length := (by have := hI0.le; simp at ht32; omega)
      have hcl : closeB l a b = closeEnd (min (max b 0) 1048576) g.out g.es := (by unfold closeB; rw [if_neg (by simp at ht22; omega), hI0.end_ hkl])
      have hel := hI0.el
      have hol := hI0.ol
      have hlen : l.length ≤ 1000 := (by simp at ht22; omega)
      refine C_exit ?_
      repeat (first | refine X_then ?_ | refine X_here ?_ | refine X_block rfl ?_)
      refine N_then ?_
      refine C_seq ?_
      refine C_region ?_
      refine W_rd (rd_move rfl) rfl rfl rfl ?_
      refine W_op rfl (op_call (wLen_c gt24 g.out) Tryz.func99 rfl rfl rfl (pickR_spec (is := [0]) rfl) (fun _ _ _ => trivial) rfl ?_)
      rintro xt66 Ht66 ⟨rfl, rfl⟩
      refine W_rd (rd_assign rfl) rfl rfl rfl ?_
      refine W_nil ?_
      refine N_then ?_
      refine C_seq ?_
      refine C_region ?_
      refine W_rd (rd_move rfl) rfl rfl rfl ?_
      refine W_op rfl (op_call (indexPut_c g.A g.cp g.es) Tryz.func100 rfl rfl rfl (pickR_spec (is := []) rfl) (fun o hle hsub => hsub.row 1 rfl) rfl ?_)
      rintro xt69 Ht69 (⟨h0, A2, c2, rfl, rfl⟩ | ⟨h0, rfl, rfl⟩)
      ·
        have hib := indexBody_length h0
        have hil : (indexB g.es).length = (indexBody g.es).length + 4 := crcB_length _
        refine W_rd (rd_move rfl) rfl rfl rfl ?_
        refine W_rd (rd_extract rfl rfl) rfl rfl rfl ?_
        refine W_rd (rd_extract rfl rfl) rfl rfl rfl ?_
        refine W_rd (rd_assign rfl) rfl rfl rfl ?_
        refine W_rd (rd_assign rfl) rfl rfl rfl ?_
        refine W_nil ?_
        refine N_then ?_
        refine C_seq ?_
        refine C_seq ?_
        refine C_region ?_
        refine W_rd (rd_move rfl) rfl rfl rfl ?_
        refine W_rd (rd_bin rfl rfl rfl) rfl rfl rfl ?_
        refine W_nil ?_
        refine N_then ?_
        refine C_cond rfl (fun h => by first | (cases h; done) | (simp at h; done) | (simp at h; omega)) (fun ht73 => ?_)
        refine C_skip ?_
        refine N_then ?_
        refine C_seq ?_
        refine C_region ?_
        refine W_rd (rd_move rfl) rfl rfl rfl ?_
        refine W_rd (rd_move rfl) rfl rfl rfl ?_
        refine W_op rfl (op_call (wPut_c gt24 g.out (indexB g.es) A2 c2 (by omega)) Tryz.func97 rfl rfl rfl (pickR_spec (is := [1]) rfl) (fun o hle hsub => hsub.row 0 rfl) rfl ?_)
        rintro xt77 Ht77 ⟨rfl, rfl⟩
        refine W_nil ?_
        refine N_then ?_
        refine C_seq ?_
        refine C_region ?_
        refine W_rd (rd_build la157 rfl rfl rfl) rfl rfl rfl ?_
        refine W_op rfl (op_box rfl (by first | exact .inl rfl | exact .inr ⟨_, rfl⟩) rfl ?_)
        intro gt79
        refine W_rd (rd_assign rfl) rfl rfl rfl ?_
        refine W_nil ?_
        refine N_then ?_
        refine C_seq ?_
        refine C_nil_row 1 5 ?_
        refine C_pack [1, 0] rfl (wr_mk (bs := []) rfl rfl) ?_
        refine C_region ?_
        refine W_rd (rd_move rfl) rfl rfl rfl ?_
        refine W_rd (rd_move rfl) rfl rfl rfl ?_
        refine W_rd (rd_conv un3 un40 rfl rfl) rfl rfl rfl ?_
        refine W_op rfl (op_call (wWord_c gt79 [] (UInt32.ofInt (g.out.length : Int)) (by decide)) Tryz.func101 rfl rfl rfl (pickR_spec (is := [0]) rfl) (fun _ _ _ => trivial) rfl ?_)
        rintro xt83 Ht83 ⟨rfl, rfl⟩
        refine W_nil ?_
        refine N_then ?_
        refine C_seq ?_
        refine C_region ?_
        refine W_rd (rd_move rfl) rfl rfl rfl ?_
        refine W_rd (rd_move rfl) rfl rfl rfl ?_
        refine W_rd (rd_len sl27.und rfl) rfl rfl rfl ?_
        refine W_rd (rd_conv un3 un40 rfl rfl) rfl rfl rfl ?_
        refine W_op rfl (op_call (wWord_c gt79 _ (UInt32.ofInt ((indexB g.es).length : Int)) (by simp only [List.length_append, List.length_cons, List.length_nil, wordB_length]; omega)) Tryz.func101 rfl rfl rfl (pickR_spec (is := [0]) rfl) (fun _ _ _ => trivial) rfl ?_)
        rintro xt88 Ht88 ⟨rfl, rfl⟩
        refine W_nil ?_
        refine N_then ?_
        refine C_seq ?_
        refine C_region ?_
        refine W_rd (rd_move rfl) rfl rfl rfl ?_
        refine W_rd (rd_move rfl) rfl rfl rfl ?_
        refine W_op rfl (op_call (wBytes_c gt79 _ (by simp only [List.length_append, List.length_cons, List.length_nil, wordB_length]; omega)) Tryz.func88 rfl rfl rfl (pickR_spec (is := [0]) rfl) (fun _ _ _ => trivial) rfl ?_)
        rintro xt91 Ht91 ⟨A3, c3, rfl, rfl⟩
        refine W_op rfl (op_call (crcPut_c A3 c3 _ (by simp only [List.length_append, List.length_cons, List.length_nil, wordB_length]; omega)) Tryz.func102 rfl rfl rfl (pickR_spec (is := []) rfl) (fun o hle hsub => hsub.row 0 rfl) rfl ?_)
        rintro xt92 Ht92 ⟨A4, c4, rfl, rfl⟩
        refine W_op rfl (op_call (wPut_c gt24 _ (footB g.out.length (indexB g.es).length) A4 c4 (by simp only [footB, crcB_length, wordB_length, List.length_append]; omega)) Tryz.func97 rfl rfl rfl (pickR_spec (is := [3]) rfl) (fun o hle hsub => hsub.row 0 rfl) rfl ?_)
        rintro xt93 Ht93 ⟨rfl, rfl⟩
        refine W_nil ?_
        refine N_then ?_
        refine C_seq ?_
        refine C_seq ?_
        refine C_draw (by kernel_rfl) none _ _ (pickR_spec (is := [0]) rfl) ?_
        intro c27 hle27 hsub27 back27
        have hB := hsub27.blk 5 rfl
        refine D_take (i := 0) rfl (by kernel_rfl) (rd_move rfl) rfl rfl rfl ?_
        refine D_take (i := 2) rfl (by kernel_rfl) (rd_fieldAddr fa71_1 rfl) rfl rfl rfl ?_
        first | refine D_take (i := 3) rfl (by kernel_rfl) (rd_load rfl hB sc3 rfl) rfl rfl rfl ?_
        refine D_one (i := 1) (by kernel_rfl) rfl rfl (op_call (wLen_c gt24 _) Tryz.func99 rfl rfl rfl (pickR_spec (is := [0]) rfl) (fun _ _ _ => trivial) rfl ?_)
        rintro xt95 Ht95 ⟨rfl, rfl⟩
        refine D_take (i := 4) rfl (by kernel_rfl) (rd_bin rfl rfl rfl) rfl rfl rfl ?_
        refine D_done (by kernel_rfl) back27 ?_
        refine N_then ?_
        refine C_cond rfl (fun ht98 => ?_) (fun ht98 => ?_)
        ·
          refine C_seq ?_
          refine C_region ?_
          refine W_rd (rd_assign rfl) rfl rfl rfl ?_
          refine W_rd (rd_assign rfl) rfl rfl rfl ?_
          refine W_nil ?_
          refine N_then ?_
          refine C_ret ?_
          repeat (first | refine Rt_then ?_ | refine Rt_block ?_)
          have hz : closeB l a b = (6, []) := (by rw [hcl, closeEnd, if_neg (by simp [h0]), if_pos (of_decide_eq_true ht98)])
          exact Ret2 [] rfl rfl rfl rfl rfl (.inr ⟨by rw [hz]; decide, by rw [hz], rfl⟩)
        ·
          refine C_skip ?_
          refine N_then ?_
          refine C_seq ?_
          refine C_region ?_
          refine W_rd (rd_move rfl) rfl rfl rfl ?_
          refine W_op rfl (op_call (wBytes_c gt24 _ (by simp only [footB, crcB_length, wordB_length, List.length_append]; omega)) Tryz.func88 rfl rfl rfl (pickR_spec (is := [0]) rfl) (fun _ _ _ => trivial) rfl ?_)
          rintro xt100 Ht100 ⟨A5, c5, rfl, rfl⟩
          refine W_rd (rd_assign rfl) rfl rfl rfl ?_
          refine W_rd (rd_assign rfl) rfl rfl rfl ?_
          refine W_nil ?_
          refine N_then ?_
          refine C_ret ?_
          repeat (first | refine Rt_then ?_ | refine Rt_block ?_)
          have hz : closeB l a b = (0, g.out ++ indexB g.es ++ footB g.out.length (indexB g.es).length) := (by rw [hcl, closeEnd, if_neg (by simp [h0]), if_neg (of_decide_eq_false ht98)])
          exact Ret2 [0] rfl rfl rfl rfl rfl (.inl ⟨by rw [hz], A5, c5, by rw [hz], by rw [hz]⟩)
      ·
        refine W_rd (rd_move rfl) rfl rfl rfl ?_
        refine W_rd (rd_extract rfl rfl) rfl rfl rfl ?_
        refine W_rd (rd_extract rfl rfl) rfl rfl rfl ?_
        refine W_rd (rd_assign rfl) rfl rfl rfl ?_
        refine W_rd (rd_assign rfl) rfl rfl rfl ?_
        refine W_nil ?_
        refine N_then ?_
        refine C_seq ?_
        refine C_seq ?_
        refine C_region ?_
        refine W_rd (rd_move rfl) rfl rfl rfl ?_
        refine W_rd (rd_bin rfl rfl rfl) rfl rfl rfl ?_
        refine W_nil ?_
        refine N_then ?_
        refine C_cond rfl (fun ht73 => ?_) (fun h => by first | (cases h; done) | (simp at h; done) | (simp at h; omega))
        refine C_seq ?_
        refine C_region ?_
        refine W_rd (rd_move rfl) rfl rfl rfl ?_
        refine W_rd (rd_assign rfl) rfl rfl rfl ?_
        refine W_rd (rd_assign rfl) rfl rfl rfl ?_
        refine W_nil ?_
        refine N_then ?_
        refine C_ret ?_
        repeat (first | refine Rt_then ?_ | refine Rt_block ?_)
        have hz : closeB l a b = (indexChk g.es, []) := (by rw [hcl, closeEnd, if_pos h0])
        exact Ret2 [] rfl rfl rfl rfl rfl (.inr ⟨by rw [hz]; exact h0, by rw [hz], rfl⟩)
theorem close_n {n : Nat} (A : Option Addr) (cp : Nat) (l : List Frm) (a b : Int) (hn : n = l.length) : Tr Tryz.prog 29 [.sl A n cp, .agg [.i64 a, .i64 b]] (fun o => RS o 3 A n cp (l.flatMap Frm.tv) ∧ ∀ f ∈ l, RS o 1 f.A f.pl.length f.cp (f.pl.map .u8)) [] (fun x H' => ((closeB l a b).1 = 0 ∧ ∃ A cp, x = .tup [.sl A (closeB l a b).2.length cp, .i64 0] ∧ H' = [Row 1 5 A (closeB l a b).2.length cp ((closeB l a b).2.map .u8)]) ∨ ((closeB l a b).1 ≠ 0 ∧ x = .tup [.sl none 0 0, .i64 (closeB l a b).1] ∧ H' = [])) := by
  subst hn; exact close_c A cp l a b
end Go.Hb.Wk5
