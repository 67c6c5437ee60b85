/- Contracts: nodes. -/
import Derived.Test.YtpbillinpjccdaaGreatFaQ
namespace Go.Proofs.YtpbillinpjccdaaGreat.Fb
open Go.RowKit Go.J Go.R Go.Proofs.YtpbillinpjccdaaGreat.Fa
set_option linter.unusedVariables false
set_option linter.unusedSimpArgs false
theorem follows : Tryz.prog.follows .mixedOrders = true := by kernel_rfl
theorem AG_39 : AG Tryz.prog 39 2 := ⟨Tryz.isAgg39, Tryz.sizeOf39⟩
theorem AG_42 : AG Tryz.prog 42 6 := ⟨Tryz.isAgg42, Tryz.sizeOf42⟩
theorem EN_105 : Enters Tryz.prog 105 := enters_of Tryz.func105 (by kernel_rfl) rfl
theorem EN_106 : Enters Tryz.prog 106 := enters_of Tryz.func106 (by kernel_rfl) rfl
theorem EN_107 : Enters Tryz.prog 107 := enters_of Tryz.func107 (by kernel_rfl) rfl
theorem EN_124 : Enters Tryz.prog 124 := enters_of Tryz.func124 (by kernel_rfl) rfl
theorem EN_125 : Enters Tryz.prog 125 := enters_of Tryz.func125 (by kernel_rfl) rfl
theorem EN_164 : Enters Tryz.prog 164 := enters_of Tryz.func164 (by kernel_rfl) rfl
theorem EN_165 : Enters Tryz.prog 165 := enters_of Tryz.func165 (by kernel_rfl) rfl
theorem EN_166 : Enters Tryz.prog 166 := enters_of Tryz.func166 (by kernel_rfl) rfl
theorem EN_182 : Enters Tryz.prog 182 := enters_of Tryz.func182 (by kernel_rfl) rfl
theorem EN_217 : Enters Tryz.prog 217 := enters_of Tryz.func217 (by kernel_rfl) rfl
theorem EQT_neq_39 {a b : Dot} : ∀ x y w, (do eqGuard .neq 39 x y (dv a) (dv b); binOp .neq 39 (dv a) (dv b) : Sem Value).run Tryz.prog w = .ok (.bool (!decide (a = b))) w := fun x y w => by
  simp [go_sem]
  by_cases a.r = b.r <;> by_cases a.c = b.c <;> simp [Dot.eq_iff, *]
theorem EQT_neq_42 {a b : Nd} : ∀ x y w, (do eqGuard .neq 42 x y (nv a) (nv b); binOp .neq 42 (nv a) (nv b) : Sem Value).run Tryz.prog w = .ok (.bool (!decide (a = b))) w := fun x y w => by
  simp [go_sem]
  by_cases a.d.r = b.d.r <;> by_cases a.d.c = b.d.c <;> by_cases a.p.r = b.p.r <;> by_cases a.p.c = b.p.c <;> by_cases a.t = b.t <;> by_cases a.x = b.x <;> simp [Nd.eq_iff, Dot.eq_iff, *]
theorem FA_42_0 : FA Tryz.prog 42 0 0 := fun ad w => by simp [Instr.fieldAt, run_underlying Tryz.underlying42, Instr.sureAddr, fieldPlace, Tryz.sizeOf39]
theorem FA_42_1 : FA Tryz.prog 42 1 2 := fun ad w => by simp [Instr.fieldAt, run_underlying Tryz.underlying42, Instr.sureAddr, fieldPlace, Tryz.sizeOf39]
theorem FA_42_2 : FA Tryz.prog 42 2 4 := fun ad w => by simp [Instr.fieldAt, run_underlying Tryz.underlying42, Instr.sureAddr, fieldPlace, Tryz.sizeOf3]
theorem FA_42_3 : FA Tryz.prog 42 3 5 := fun ad w => by simp [Instr.fieldAt, run_underlying Tryz.underlying42, Instr.sureAddr, fieldPlace, Tryz.sizeOf21]
theorem NA_21 : NA Tryz.prog 21 := ⟨Tryz.isAgg21, Tryz.sizeOf21⟩
theorem NA_3 : NA Tryz.prog 3 := ⟨Tryz.isAgg3, Tryz.sizeOf3⟩
theorem ZT_42 : ZT Tryz.prog 42 (.agg #[.int .i64 0, .int .i64 0, .int .i64 0, .int .i64 0, .int .i64 0, .int .i32 0]) 6 48 := by unfold ZT; kernel_rfl
set_option maxRecDepth 20000 in
/-- unicode/utf8.ValidRune -/
theorem validRuneF (x : Int) (w : World) : Ct Tryz.prog 182 #[.int .i32 x] [] w (fun u hs => u = .bool (decide (0 ≤ x ∧ x ≤ 1114111 ∧ (x < 55296 ∨ 57343 < x))) ∧ hs = []) := by
  refine Ct.intro Tryz.func182 rfl Tryz.ntmps182 rfl ?_
  refine WA.seq ?_
  refine WA.region ?_
  refine WR.val (G0 rfl) rfl rfl (.assign rfl rfl) ?_
  refine WR.nil ?_
  refine WA.seq ?_
  refine WA.block ?_
  refine WA.seq ?_
  refine WA.region ?_
  refine WR.val (G0 rfl) rfl rfl (.move rfl rfl) ?_
  refine WR.val (G0 rfl) rfl rfl (.leq rfl rfl rfl) ?_
  refine WR.val (G0 rfl) rfl rfl (.move rfl rfl) ?_
  refine WR.split (d := 6) rfl (fun h2 => ?_) (fun h2 => ?_)
  · have f3 := h2
    try simp only [decide_eq_true_eq, decide_eq_false_iff_not, Bool.not_eq_true', Bool.not_eq_false', Int.not_lt, Int.not_le] at f3
    refine WR.val (Gt rfl rfl rfl h2) rfl rfl (.move rfl rfl) ?_
    refine WR.val (Gt rfl rfl rfl h2) rfl rfl (.lss rfl rfl rfl) ?_
    refine WR.val (G0 rfl) rfl rfl (.pick_t rfl rfl h2 rfl) ?_
    refine WR.val (G0 rfl) rfl rfl (.assign rfl rfl) ?_
    refine WR.nil ?_
    refine WA.cond rfl (fun h5 => ?_) (fun h5 => ?_)
    · have f6 := h5
      try simp only [decide_eq_true_eq, decide_eq_false_iff_not, Bool.not_eq_true', Bool.not_eq_false', Int.not_lt, Int.not_le] at f6
      refine WA.seq ?_
      refine WA.region ?_
      refine WR.val (G0 rfl) rfl rfl (.assign rfl rfl) ?_
      refine WR.nil ?_
      exact WA.ret1 rfl rfl (List.nil_sublist _) ⟨by congr 1; simp_all; try omega, rfl⟩
    · have f7 := h5
      try simp only [decide_eq_true_eq, decide_eq_false_iff_not, Bool.not_eq_true', Bool.not_eq_false', Int.not_lt, Int.not_le] at f7
      refine WA.seq ?_
      refine WA.region ?_
      refine WR.val (G0 rfl) rfl rfl (.move rfl rfl) ?_
      refine WR.val (G0 rfl) rfl rfl (.lss rfl rfl rfl) ?_
      refine WR.val (G0 rfl) rfl rfl (.move rfl rfl) ?_
      refine WR.split (d := 13) rfl (fun h9 => ?_) (fun h9 => ?_)
      · have f10 := h9
        try simp only [decide_eq_true_eq, decide_eq_false_iff_not, Bool.not_eq_true', Bool.not_eq_false', Int.not_lt, Int.not_le] at f10
        refine WR.val (Gt rfl rfl rfl h9) rfl rfl (.move rfl rfl) ?_
        refine WR.val (Gt rfl rfl rfl h9) rfl rfl (.leq rfl rfl rfl) ?_
        refine WR.val (G0 rfl) rfl rfl (.pick_t rfl rfl h9 rfl) ?_
        refine WR.val (G0 rfl) rfl rfl (.assign rfl rfl) ?_
        refine WR.nil ?_
        refine WA.cond rfl (fun h12 => ?_) (fun h12 => ?_)
        · have f13 := h12
          try simp only [decide_eq_true_eq, decide_eq_false_iff_not, Bool.not_eq_true', Bool.not_eq_false', Int.not_lt, Int.not_le] at f13
          refine WA.seq ?_
          refine WA.region ?_
          refine WR.val (G0 rfl) rfl rfl (.assign rfl rfl) ?_
          refine WR.nil ?_
          exact WA.ret1 rfl rfl (List.nil_sublist _) ⟨by congr 1; simp_all; try omega, rfl⟩
        · have f14 := h12
          try simp only [decide_eq_true_eq, decide_eq_false_iff_not, Bool.not_eq_true', Bool.not_eq_false', Int.not_lt, Int.not_le] at f14
          refine WA.skip ?_
          refine WA.mark ?_
          refine WA.seq ?_
          refine WA.region ?_
          refine WR.val (G0 rfl) rfl rfl (.assign rfl rfl) ?_
          refine WR.nil ?_
          exact WA.ret1 rfl rfl (List.nil_sublist _) ⟨by congr 1; simp_all; try omega, rfl⟩
      · have f15 := h9
        try simp only [decide_eq_true_eq, decide_eq_false_iff_not, Bool.not_eq_true', Bool.not_eq_false', Int.not_lt, Int.not_le] at f15
        refine WR.off (Gf rfl rfl rfl h9) rfl rfl ?_
        refine WR.off (Gf rfl rfl rfl h9) rfl rfl ?_
        refine WR.val (G0 rfl) rfl rfl (.pick_f rfl rfl h9 rfl) ?_
        refine WR.val (G0 rfl) rfl rfl (.assign rfl rfl) ?_
        refine WR.nil ?_
        refine WA.cond_f rfl rfl ?_
        refine WA.skip ?_
        refine WA.mark ?_
        refine WA.seq ?_
        refine WA.region ?_
        refine WR.val (G0 rfl) rfl rfl (.assign rfl rfl) ?_
        refine WR.nil ?_
        exact WA.ret1 rfl rfl (List.nil_sublist _) ⟨by congr 1; simp_all; try omega, rfl⟩
  · have f16 := h2
    try simp only [decide_eq_true_eq, decide_eq_false_iff_not, Bool.not_eq_true', Bool.not_eq_false', Int.not_lt, Int.not_le] at f16
    refine WR.off (Gf rfl rfl rfl h2) rfl rfl ?_
    refine WR.off (Gf rfl rfl rfl h2) rfl rfl ?_
    refine WR.val (G0 rfl) rfl rfl (.pick_f rfl rfl h2 rfl) ?_
    refine WR.val (G0 rfl) rfl rfl (.assign rfl rfl) ?_
    refine WR.nil ?_
    refine WA.cond_f rfl rfl ?_
    refine WA.seq ?_
    refine WA.region ?_
    refine WR.val (G0 rfl) rfl rfl (.move rfl rfl) ?_
    refine WR.val (G0 rfl) rfl rfl (.lss rfl rfl rfl) ?_
    refine WR.val (G0 rfl) rfl rfl (.move rfl rfl) ?_
    refine WR.split (d := 13) rfl (fun h18 => ?_) (fun h18 => ?_)
    · have f19 := h18
      try simp only [decide_eq_true_eq, decide_eq_false_iff_not, Bool.not_eq_true', Bool.not_eq_false', Int.not_lt, Int.not_le] at f19
      refine WR.val (Gt rfl rfl rfl h18) rfl rfl (.move rfl rfl) ?_
      refine WR.val (Gt rfl rfl rfl h18) rfl rfl (.leq rfl rfl rfl) ?_
      refine WR.val (G0 rfl) rfl rfl (.pick_t rfl rfl h18 rfl) ?_
      refine WR.val (G0 rfl) rfl rfl (.assign rfl rfl) ?_
      refine WR.nil ?_
      refine WA.cond rfl (fun h21 => ?_) (fun h21 => ?_)
      · have f22 := h21
        try simp only [decide_eq_true_eq, decide_eq_false_iff_not, Bool.not_eq_true', Bool.not_eq_false', Int.not_lt, Int.not_le] at f22
        refine WA.seq ?_
        refine WA.region ?_
        refine WR.val (G0 rfl) rfl rfl (.assign rfl rfl) ?_
        refine WR.nil ?_
        exact WA.ret1 rfl rfl (List.nil_sublist _) ⟨by congr 1; simp_all; try omega, rfl⟩
      · have f23 := h21
        try simp only [decide_eq_true_eq, decide_eq_false_iff_not, Bool.not_eq_true', Bool.not_eq_false', Int.not_lt, Int.not_le] at f23
        refine WA.skip ?_
        refine WA.mark ?_
        refine WA.seq ?_
        refine WA.region ?_
        refine WR.val (G0 rfl) rfl rfl (.assign rfl rfl) ?_
        refine WR.nil ?_
        exact WA.ret1 rfl rfl (List.nil_sublist _) ⟨by congr 1; simp_all; try omega, rfl⟩
    · have f24 := h18
      try simp only [decide_eq_true_eq, decide_eq_false_iff_not, Bool.not_eq_true', Bool.not_eq_false', Int.not_lt, Int.not_le] at f24
      refine WR.off (Gf rfl rfl rfl h18) rfl rfl ?_
      refine WR.off (Gf rfl rfl rfl h18) rfl rfl ?_
      refine WR.val (G0 rfl) rfl rfl (.pick_f rfl rfl h18 rfl) ?_
      refine WR.val (G0 rfl) rfl rfl (.assign rfl rfl) ?_
      refine WR.nil ?_
      refine WA.cond_f rfl rfl ?_
      refine WA.skip ?_
      refine WA.mark ?_
      refine WA.seq ?_
      refine WA.region ?_
      refine WR.val (G0 rfl) rfl rfl (.assign rfl rfl) ?_
      refine WR.nil ?_
      exact WA.ret1 rfl rfl (List.nil_sublist _) ⟨by congr 1; simp_all; try omega, rfl⟩
set_option maxRecDepth 20000 in
/-- redpencil/runes.Valid -/
theorem rvalidF (x : Int) (w : World) : Ct Tryz.prog 124 #[.int .i32 x] [] w (fun u hs => u = .bool (rvalid x) ∧ hs = []) := by
  refine Ct.intro Tryz.func124 rfl Tryz.ntmps124 rfl ?_
  refine WA.seq ?_
  refine WA.region ?_
  refine WR.val (G0 rfl) rfl rfl (.assign rfl rfl) ?_
  refine WR.nil ?_
  refine WA.seq ?_
  refine WA.region ?_
  refine WR.val (G0 rfl) rfl rfl (.move rfl rfl) ?_
  refine WR.val (G0 rfl) rfl rfl (.neq rfl rfl rfl) ?_
  refine WR.val (G0 rfl) rfl rfl (.move rfl rfl) ?_
  refine WR.split (d := 5) rfl (fun h2 => ?_) (fun h2 => ?_)
  · have f3 := h2
    try simp only [decide_eq_true_eq, decide_eq_false_iff_not, Bool.not_eq_true', Bool.not_eq_false', Int.not_lt, Int.not_le] at f3
    refine WR.val (Gt rfl rfl rfl h2) rfl rfl (.move rfl rfl) ?_
    refine WR.dw (Gt rfl rfl rfl h2) rfl rfl (.callv (caps := []) rfl rfl rfl EN_182 (fun w hw => validRuneF _ w)) ?_
    rintro _ _ ⟨rfl, rfl⟩
    refine WR.val (G0 rfl) rfl rfl (.pick_t rfl rfl h2 rfl) ?_
    refine WR.val (G0 rfl) rfl rfl (.assign rfl rfl) ?_
    refine WR.nil ?_
    exact WA.ret1 rfl rfl (List.nil_sublist _) ⟨by congr 1; rw [Bool.eq_iff_iff]; simp_all [rvalid]; try omega, rfl⟩
  · have f5 := h2
    try simp only [decide_eq_true_eq, decide_eq_false_iff_not, Bool.not_eq_true', Bool.not_eq_false', Int.not_lt, Int.not_le] at f5
    refine WR.off (Gf rfl rfl rfl h2) rfl rfl ?_
    refine WR.off (Gf rfl rfl rfl h2) rfl rfl ?_
    refine WR.val (G0 rfl) rfl rfl (.pick_f rfl rfl h2 rfl) ?_
    refine WR.val (G0 rfl) rfl rfl (.assign rfl rfl) ?_
    refine WR.nil ?_
    exact WA.ret1 rfl rfl (List.nil_sublist _) ⟨by congr 1; rw [Bool.eq_iff_iff]; simp_all [rvalid]; try omega, rfl⟩
set_option maxRecDepth 20000 in
/-- redpencil/node.Dead -/
theorem deadF (n : Nd) (w : World) : Ct Tryz.prog 166 #[nv n] [] w (fun u hs => u = .bool (decide (n.x = 0)) ∧ hs = []) := by
  refine Ct.intro Tryz.func166 rfl Tryz.ntmps166 rfl ?_
  refine WA.seq ?_
  refine WA.region ?_
  refine WR.dw (G0 rfl) rfl rfl (.box (vs := [_, _, _, _, _, _]) rfl rfl rfl) ?_
  rintro _ _ ⟨b2, rfl, rfl⟩
  refine WR.val (G0 rfl) rfl rfl (.assign rfl rfl) ?_
  refine WR.nil ?_
  refine WA.seq ?_
  refine WA.region ?_
  refine WR.val (G0 rfl) rfl rfl (.fa rfl FA_42_3 rfl) ?_
  refine WR.val (G0 rfl) rfl rfl (.load1 rfl NA_21 rfl (fun _ hw => hw.rd_blk (k := 1) 0 rfl rfl)) ?_
  refine WR.val (G0 rfl) rfl rfl (.eql rfl rfl rfl) ?_
  refine WR.val (G0 rfl) rfl rfl (.assign rfl rfl) ?_
  refine WR.nil ?_
  exact WA.ret1 rfl rfl (List.nil_sublist _) ⟨rfl, rfl⟩
set_option maxRecDepth 20000 in
/-- redpencil/node.Valid -/
theorem nvalidF (n : Nd) (w : World) : Ct Tryz.prog 164 #[nv n] [] w (fun u hs => u = .bool (nvalid n) ∧ hs = []) := by
  refine Ct.intro Tryz.func164 rfl Tryz.ntmps164 rfl ?_
  refine WA.seq ?_
  refine WA.region ?_
  refine WR.dw (G0 rfl) rfl rfl (.box (vs := [_, _, _, _, _, _]) rfl rfl rfl) ?_
  rintro _ _ ⟨b2, rfl, rfl⟩
  refine WR.val (G0 rfl) rfl rfl (.assign rfl rfl) ?_
  refine WR.nil ?_
  refine WA.seq ?_
  refine WA.region ?_
  refine WR.val (G0 rfl) rfl rfl (.fa rfl FA_42_0 rfl) ?_
  refine WR.val (G0 rfl) rfl rfl (.loadK (vs := [_, _]) rfl AG_39 rfl (fun _ hw => hw.rd_blk (k := 2) 0 rfl rfl)) ?_
  refine WR.dw (G0 rfl) rfl rfl (.callv (caps := []) rfl rfl rfl EN_125 (fun w hw => dvalidF _ w)) ?_
  rintro _ _ ⟨rfl, rfl⟩
  refine WR.val (G0 rfl) rfl rfl (.move rfl rfl) ?_
  refine WR.split (d := 6) rfl (fun h4 => ?_) (fun h4 => ?_)
  · have f5 := h4
    try simp only [decide_eq_true_eq, decide_eq_false_iff_not, Bool.not_eq_true', Bool.not_eq_false', Int.not_lt, Int.not_le] at f5
    refine WR.val (Gt rfl rfl rfl h4) rfl rfl (.fa rfl FA_42_1 rfl) ?_
    refine WR.val (Gt rfl rfl rfl h4) rfl rfl (.loadK (vs := [_, _]) rfl AG_39 rfl (fun _ hw => hw.rd_blk (k := 2) 0 rfl rfl)) ?_
    refine WR.dw (Gt rfl rfl rfl h4) rfl rfl (.callv (caps := []) rfl rfl rfl EN_217 (fun w hw => drootF _ w)) ?_
    rintro _ _ ⟨rfl, rfl⟩
    refine WR.val (Gt rfl rfl rfl h4) rfl rfl (.move rfl rfl) ?_
    refine WR.split (d := 10) rfl (fun h7 => ?_) (fun h7 => ?_)
    · have f8 := h7
      try simp only [decide_eq_true_eq, decide_eq_false_iff_not, Bool.not_eq_true', Bool.not_eq_false', Int.not_lt, Int.not_le] at f8
      refine WR.off (Gf rfl rfl rfl h7) rfl rfl ?_
      refine WR.off (Gf rfl rfl rfl h7) rfl rfl ?_
      refine WR.off (Gf rfl rfl rfl h7) rfl rfl ?_
      refine WR.val (Gt rfl rfl rfl h4) rfl rfl (.pick_t rfl rfl h7 rfl) ?_
      refine WR.val (G0 rfl) rfl rfl (.pick_t rfl rfl h4 rfl) ?_
      refine WR.val (G0 rfl) rfl rfl (.move rfl rfl) ?_
      refine WR.val (Gt rfl rfl rfl rfl) rfl rfl (.fa rfl FA_42_1 rfl) ?_
      refine WR.val (Gt rfl rfl rfl rfl) rfl rfl (.loadK (vs := [_, _]) rfl AG_39 rfl (fun _ hw => hw.rd_blk (k := 2) 0 rfl rfl)) ?_
      refine WR.val (Gt rfl rfl rfl rfl) rfl rfl (.fa rfl FA_42_0 rfl) ?_
      refine WR.val (Gt rfl rfl rfl rfl) rfl rfl (.loadK (vs := [_, _]) rfl AG_39 rfl (fun _ hw => hw.rd_blk (k := 2) 0 rfl rfl)) ?_
      refine WR.val (Gt rfl rfl rfl rfl) rfl rfl (.bin rfl rfl rfl EQT_neq_39) ?_
      refine WR.val (G0 rfl) rfl rfl (.pick_t rfl rfl rfl rfl) ?_
      refine WR.val (G0 rfl) rfl rfl (.move rfl rfl) ?_
      refine WR.split (d := 23) rfl (fun h10 => ?_) (fun h10 => ?_)
      · have f11 := h10
        try simp only [decide_eq_true_eq, decide_eq_false_iff_not, Bool.not_eq_true', Bool.not_eq_false', Int.not_lt, Int.not_le] at f11
        refine WR.val (Gt rfl rfl rfl h10) rfl rfl (.fa rfl FA_42_2 rfl) ?_
        refine WR.val (Gt rfl rfl rfl h10) rfl rfl (.load1 rfl NA_3 rfl (fun _ hw => hw.rd_blk (k := 1) 0 rfl rfl)) ?_
        refine WR.val (Gt rfl rfl rfl h10) rfl rfl (.geq rfl rfl rfl) ?_
        refine WR.val (G0 rfl) rfl rfl (.pick_t rfl rfl h10 rfl) ?_
        refine WR.val (G0 rfl) rfl rfl (.move rfl rfl) ?_
        refine WR.split (d := 28) rfl (fun h13 => ?_) (fun h13 => ?_)
        · have f14 := h13
          try simp only [decide_eq_true_eq, decide_eq_false_iff_not, Bool.not_eq_true', Bool.not_eq_false', Int.not_lt, Int.not_le] at f14
          refine WR.val (Gt rfl rfl rfl h13) rfl rfl (.fa rfl FA_42_2 rfl) ?_
          refine WR.val (Gt rfl rfl rfl h13) rfl rfl (.load1 rfl NA_3 rfl (fun _ hw => hw.rd_blk (k := 1) 0 rfl rfl)) ?_
          refine WR.val (Gt rfl rfl rfl h13) rfl rfl (.leq rfl rfl rfl) ?_
          refine WR.val (G0 rfl) rfl rfl (.pick_t rfl rfl h13 rfl) ?_
          refine WR.val (G0 rfl) rfl rfl (.move rfl rfl) ?_
          refine WR.split (d := 33) rfl (fun h16 => ?_) (fun h16 => ?_)
          · have f17 := h16
            try simp only [decide_eq_true_eq, decide_eq_false_iff_not, Bool.not_eq_true', Bool.not_eq_false', Int.not_lt, Int.not_le] at f17
            refine WR.val (Gt rfl rfl rfl h16) rfl rfl (.loadK (vs := [_, _, _, _, _, _]) rfl AG_42 rfl (fun _ hw => hw.rd_blk (k := 6) 0 rfl rfl)) ?_
            refine WR.dw (Gt rfl rfl rfl h16) rfl rfl (.callv (caps := []) rfl rfl rfl EN_166 (fun w hw => deadF _ w)) ?_
            rintro _ _ ⟨rfl, rfl⟩
            refine WR.val (Gt rfl rfl rfl h16) rfl rfl (.move rfl rfl) ?_
            refine WR.split (d := 36) rfl (fun h19 => ?_) (fun h19 => ?_)
            · have f20 := h19
              try simp only [decide_eq_true_eq, decide_eq_false_iff_not, Bool.not_eq_true', Bool.not_eq_false', Int.not_lt, Int.not_le] at f20
              refine WR.off (Gf rfl rfl rfl h19) rfl rfl ?_
              refine WR.off (Gf rfl rfl rfl h19) rfl rfl ?_
              refine WR.off (Gf rfl rfl rfl h19) rfl rfl ?_
              refine WR.val (Gt rfl rfl rfl h16) rfl rfl (.pick_t rfl rfl h19 rfl) ?_
              refine WR.val (G0 rfl) rfl rfl (.pick_t rfl rfl h16 rfl) ?_
              refine WR.val (G0 rfl) rfl rfl (.assign rfl rfl) ?_
              refine WR.nil ?_
              exact WA.ret1 rfl rfl (List.nil_sublist _) ⟨by congr 1; rw [Bool.eq_iff_iff]; simp_all [nvalid, Dot.eq_iff]; try (intros; omega), rfl⟩
            · have f21 := h19
              try simp only [decide_eq_true_eq, decide_eq_false_iff_not, Bool.not_eq_true', Bool.not_eq_false', Int.not_lt, Int.not_le] at f21
              refine WR.val (Gt rfl rfl rfl h19) rfl rfl (.fa rfl FA_42_3 rfl) ?_
              refine WR.val (Gt rfl rfl rfl h19) rfl rfl (.load1 rfl NA_21 rfl (fun _ hw => hw.rd_blk (k := 1) 0 rfl rfl)) ?_
              refine WR.dw (Gt rfl rfl rfl h19) rfl rfl (.callv (caps := []) rfl rfl rfl EN_124 (fun w hw => rvalidF _ w)) ?_
              rintro _ _ ⟨rfl, rfl⟩
              refine WR.val (Gt rfl rfl rfl h16) rfl rfl (.pick_f rfl rfl h19 rfl) ?_
              refine WR.val (G0 rfl) rfl rfl (.pick_t rfl rfl h16 rfl) ?_
              refine WR.val (G0 rfl) rfl rfl (.assign rfl rfl) ?_
              refine WR.nil ?_
              exact WA.ret1 rfl rfl (List.nil_sublist _) ⟨by congr 1; rw [Bool.eq_iff_iff]; simp_all [nvalid, Dot.eq_iff]; try (intros; omega), rfl⟩
          · have f23 := h16
            try simp only [decide_eq_true_eq, decide_eq_false_iff_not, Bool.not_eq_true', Bool.not_eq_false', Int.not_lt, Int.not_le] at f23
            refine WR.off (Gf rfl rfl rfl h16) rfl rfl ?_
            refine WR.off (Gf rfl rfl rfl h16) rfl rfl ?_
            refine WR.off (Gf rfl rfl rfl h16) rfl rfl ?_
            refine WR.off (Gu rfl rfl rfl) rfl rfl ?_
            refine WR.off (Gu rfl rfl rfl) rfl rfl ?_
            refine WR.off (Gu rfl rfl rfl) rfl rfl ?_
            refine WR.off (Gf rfl rfl rfl h16) rfl rfl ?_
            refine WR.val (G0 rfl) rfl rfl (.pick_f rfl rfl h16 rfl) ?_
            refine WR.val (G0 rfl) rfl rfl (.assign rfl rfl) ?_
            refine WR.nil ?_
            exact WA.ret1 rfl rfl (List.nil_sublist _) ⟨by congr 1; rw [Bool.eq_iff_iff]; simp_all [nvalid, Dot.eq_iff]; try (intros; omega), rfl⟩
        · have f24 := h13
          try simp only [decide_eq_true_eq, decide_eq_false_iff_not, Bool.not_eq_true', Bool.not_eq_false', Int.not_lt, Int.not_le] at f24
          refine WR.off (Gf rfl rfl rfl h13) rfl rfl ?_
          refine WR.off (Gf rfl rfl rfl h13) rfl rfl ?_
          refine WR.off (Gf rfl rfl rfl h13) rfl rfl ?_
          refine WR.val (G0 rfl) rfl rfl (.pick_f rfl rfl h13 rfl) ?_
          refine WR.val (G0 rfl) rfl rfl (.move rfl rfl) ?_
          refine WR.off (Gf rfl rfl rfl rfl) rfl rfl ?_
          refine WR.off (Gf rfl rfl rfl rfl) rfl rfl ?_
          refine WR.off (Gf rfl rfl rfl rfl) rfl rfl ?_
          refine WR.off (Gu rfl rfl rfl) rfl rfl ?_
          refine WR.off (Gu rfl rfl rfl) rfl rfl ?_
          refine WR.off (Gu rfl rfl rfl) rfl rfl ?_
          refine WR.off (Gf rfl rfl rfl rfl) rfl rfl ?_
          refine WR.val (G0 rfl) rfl rfl (.pick_f rfl rfl rfl rfl) ?_
          refine WR.val (G0 rfl) rfl rfl (.assign rfl rfl) ?_
          refine WR.nil ?_
          exact WA.ret1 rfl rfl (List.nil_sublist _) ⟨by congr 1; rw [Bool.eq_iff_iff]; simp_all [nvalid, Dot.eq_iff]; try (intros; omega), rfl⟩
      · have f25 := h10
        try simp only [decide_eq_true_eq, decide_eq_false_iff_not, Bool.not_eq_true', Bool.not_eq_false', Int.not_lt, Int.not_le] at f25
        refine WR.off (Gf rfl rfl rfl h10) rfl rfl ?_
        refine WR.off (Gf rfl rfl rfl h10) rfl rfl ?_
        refine WR.off (Gf rfl rfl rfl h10) rfl rfl ?_
        refine WR.val (G0 rfl) rfl rfl (.pick_f rfl rfl h10 rfl) ?_
        refine WR.val (G0 rfl) rfl rfl (.move rfl rfl) ?_
        refine WR.off (Gf rfl rfl rfl rfl) rfl rfl ?_
        refine WR.off (Gf rfl rfl rfl rfl) rfl rfl ?_
        refine WR.off (Gf rfl rfl rfl rfl) rfl rfl ?_
        refine WR.val (G0 rfl) rfl rfl (.pick_f rfl rfl rfl rfl) ?_
        refine WR.val (G0 rfl) rfl rfl (.move rfl rfl) ?_
        refine WR.off (Gf rfl rfl rfl rfl) rfl rfl ?_
        refine WR.off (Gf rfl rfl rfl rfl) rfl rfl ?_
        refine WR.off (Gf rfl rfl rfl rfl) rfl rfl ?_
        refine WR.off (Gu rfl rfl rfl) rfl rfl ?_
        refine WR.off (Gu rfl rfl rfl) rfl rfl ?_
        refine WR.off (Gu rfl rfl rfl) rfl rfl ?_
        refine WR.off (Gf rfl rfl rfl rfl) rfl rfl ?_
        refine WR.val (G0 rfl) rfl rfl (.pick_f rfl rfl rfl rfl) ?_
        refine WR.val (G0 rfl) rfl rfl (.assign rfl rfl) ?_
        refine WR.nil ?_
        exact WA.ret1 rfl rfl (List.nil_sublist _) ⟨by congr 1; rw [Bool.eq_iff_iff]; simp_all [nvalid, Dot.eq_iff]; try (intros; omega), rfl⟩
    · have f26 := h7
      try simp only [decide_eq_true_eq, decide_eq_false_iff_not, Bool.not_eq_true', Bool.not_eq_false', Int.not_lt, Int.not_le] at f26
      refine WR.val (Gt rfl rfl rfl h7) rfl rfl (.fa rfl FA_42_1 rfl) ?_
      refine WR.val (Gt rfl rfl rfl h7) rfl rfl (.loadK (vs := [_, _]) rfl AG_39 rfl (fun _ hw => hw.rd_blk (k := 2) 0 rfl rfl)) ?_
      refine WR.dw (Gt rfl rfl rfl h7) rfl rfl (.callv (caps := []) rfl rfl rfl EN_125 (fun w hw => dvalidF _ w)) ?_
      rintro _ _ ⟨rfl, rfl⟩
      refine WR.val (Gt rfl rfl rfl h4) rfl rfl (.pick_f rfl rfl h7 rfl) ?_
      refine WR.val (G0 rfl) rfl rfl (.pick_t rfl rfl h4 rfl) ?_
      refine WR.val (G0 rfl) rfl rfl (.move rfl rfl) ?_
      refine WR.split (d := 16) rfl (fun h28 => ?_) (fun h28 => ?_)
      · have f29 := h28
        try simp only [decide_eq_true_eq, decide_eq_false_iff_not, Bool.not_eq_true', Bool.not_eq_false', Int.not_lt, Int.not_le] at f29
        refine WR.val (Gt rfl rfl rfl h28) rfl rfl (.fa rfl FA_42_1 rfl) ?_
        refine WR.val (Gt rfl rfl rfl h28) rfl rfl (.loadK (vs := [_, _]) rfl AG_39 rfl (fun _ hw => hw.rd_blk (k := 2) 0 rfl rfl)) ?_
        refine WR.val (Gt rfl rfl rfl h28) rfl rfl (.fa rfl FA_42_0 rfl) ?_
        refine WR.val (Gt rfl rfl rfl h28) rfl rfl (.loadK (vs := [_, _]) rfl AG_39 rfl (fun _ hw => hw.rd_blk (k := 2) 0 rfl rfl)) ?_
        refine WR.val (Gt rfl rfl rfl h28) rfl rfl (.bin rfl rfl rfl EQT_neq_39) ?_
        refine WR.val (G0 rfl) rfl rfl (.pick_t rfl rfl h28 rfl) ?_
        refine WR.val (G0 rfl) rfl rfl (.move rfl rfl) ?_
        refine WR.split (d := 23) rfl (fun h31 => ?_) (fun h31 => ?_)
        · have f32 := h31
          try simp only [decide_eq_true_eq, decide_eq_false_iff_not, Bool.not_eq_true', Bool.not_eq_false', Int.not_lt, Int.not_le] at f32
          refine WR.val (Gt rfl rfl rfl h31) rfl rfl (.fa rfl FA_42_2 rfl) ?_
          refine WR.val (Gt rfl rfl rfl h31) rfl rfl (.load1 rfl NA_3 rfl (fun _ hw => hw.rd_blk (k := 1) 0 rfl rfl)) ?_
          refine WR.val (Gt rfl rfl rfl h31) rfl rfl (.geq rfl rfl rfl) ?_
          refine WR.val (G0 rfl) rfl rfl (.pick_t rfl rfl h31 rfl) ?_
          refine WR.val (G0 rfl) rfl rfl (.move rfl rfl) ?_
          refine WR.split (d := 28) rfl (fun h34 => ?_) (fun h34 => ?_)
          · have f35 := h34
            try simp only [decide_eq_true_eq, decide_eq_false_iff_not, Bool.not_eq_true', Bool.not_eq_false', Int.not_lt, Int.not_le] at f35
            refine WR.val (Gt rfl rfl rfl h34) rfl rfl (.fa rfl FA_42_2 rfl) ?_
            refine WR.val (Gt rfl rfl rfl h34) rfl rfl (.load1 rfl NA_3 rfl (fun _ hw => hw.rd_blk (k := 1) 0 rfl rfl)) ?_
            refine WR.val (Gt rfl rfl rfl h34) rfl rfl (.leq rfl rfl rfl) ?_
            refine WR.val (G0 rfl) rfl rfl (.pick_t rfl rfl h34 rfl) ?_
            refine WR.val (G0 rfl) rfl rfl (.move rfl rfl) ?_
            refine WR.split (d := 33) rfl (fun h37 => ?_) (fun h37 => ?_)
            · have f38 := h37
              try simp only [decide_eq_true_eq, decide_eq_false_iff_not, Bool.not_eq_true', Bool.not_eq_false', Int.not_lt, Int.not_le] at f38
              refine WR.val (Gt rfl rfl rfl h37) rfl rfl (.loadK (vs := [_, _, _, _, _, _]) rfl AG_42 rfl (fun _ hw => hw.rd_blk (k := 6) 0 rfl rfl)) ?_
              refine WR.dw (Gt rfl rfl rfl h37) rfl rfl (.callv (caps := []) rfl rfl rfl EN_166 (fun w hw => deadF _ w)) ?_
              rintro _ _ ⟨rfl, rfl⟩
              refine WR.val (Gt rfl rfl rfl h37) rfl rfl (.move rfl rfl) ?_
              refine WR.split (d := 36) rfl (fun h40 => ?_) (fun h40 => ?_)
              · have f41 := h40
                try simp only [decide_eq_true_eq, decide_eq_false_iff_not, Bool.not_eq_true', Bool.not_eq_false', Int.not_lt, Int.not_le] at f41
                refine WR.off (Gf rfl rfl rfl h40) rfl rfl ?_
                refine WR.off (Gf rfl rfl rfl h40) rfl rfl ?_
                refine WR.off (Gf rfl rfl rfl h40) rfl rfl ?_
                refine WR.val (Gt rfl rfl rfl h37) rfl rfl (.pick_t rfl rfl h40 rfl) ?_
                refine WR.val (G0 rfl) rfl rfl (.pick_t rfl rfl h37 rfl) ?_
                refine WR.val (G0 rfl) rfl rfl (.assign rfl rfl) ?_
                refine WR.nil ?_
                exact WA.ret1 rfl rfl (List.nil_sublist _) ⟨by congr 1; rw [Bool.eq_iff_iff]; simp_all [nvalid, Dot.eq_iff]; try (intros; omega), rfl⟩
              · have f42 := h40
                try simp only [decide_eq_true_eq, decide_eq_false_iff_not, Bool.not_eq_true', Bool.not_eq_false', Int.not_lt, Int.not_le] at f42
                refine WR.val (Gt rfl rfl rfl h40) rfl rfl (.fa rfl FA_42_3 rfl) ?_
                refine WR.val (Gt rfl rfl rfl h40) rfl rfl (.load1 rfl NA_21 rfl (fun _ hw => hw.rd_blk (k := 1) 0 rfl rfl)) ?_
                refine WR.dw (Gt rfl rfl rfl h40) rfl rfl (.callv (caps := []) rfl rfl rfl EN_124 (fun w hw => rvalidF _ w)) ?_
                rintro _ _ ⟨rfl, rfl⟩
                refine WR.val (Gt rfl rfl rfl h37) rfl rfl (.pick_f rfl rfl h40 rfl) ?_
                refine WR.val (G0 rfl) rfl rfl (.pick_t rfl rfl h37 rfl) ?_
                refine WR.val (G0 rfl) rfl rfl (.assign rfl rfl) ?_
                refine WR.nil ?_
                exact WA.ret1 rfl rfl (List.nil_sublist _) ⟨by congr 1; rw [Bool.eq_iff_iff]; simp_all [nvalid, Dot.eq_iff]; try (intros; omega), rfl⟩
            · have f44 := h37
              try simp only [decide_eq_true_eq, decide_eq_false_iff_not, Bool.not_eq_true', Bool.not_eq_false', Int.not_lt, Int.not_le] at f44
              refine WR.off (Gf rfl rfl rfl h37) rfl rfl ?_
              refine WR.off (Gf rfl rfl rfl h37) rfl rfl ?_
              refine WR.off (Gf rfl rfl rfl h37) rfl rfl ?_
              refine WR.off (Gu rfl rfl rfl) rfl rfl ?_
              refine WR.off (Gu rfl rfl rfl) rfl rfl ?_
              refine WR.off (Gu rfl rfl rfl) rfl rfl ?_
              refine WR.off (Gf rfl rfl rfl h37) rfl rfl ?_
              refine WR.val (G0 rfl) rfl rfl (.pick_f rfl rfl h37 rfl) ?_
              refine WR.val (G0 rfl) rfl rfl (.assign rfl rfl) ?_
              refine WR.nil ?_
              exact WA.ret1 rfl rfl (List.nil_sublist _) ⟨by congr 1; rw [Bool.eq_iff_iff]; simp_all [nvalid, Dot.eq_iff]; try (intros; omega), rfl⟩
          · have f45 := h34
            try simp only [decide_eq_true_eq, decide_eq_false_iff_not, Bool.not_eq_true', Bool.not_eq_false', Int.not_lt, Int.not_le] at f45
            refine WR.off (Gf rfl rfl rfl h34) rfl rfl ?_
            refine WR.off (Gf rfl rfl rfl h34) rfl rfl ?_
            refine WR.off (Gf rfl rfl rfl h34) rfl rfl ?_
            refine WR.val (G0 rfl) rfl rfl (.pick_f rfl rfl h34 rfl) ?_
            refine WR.val (G0 rfl) rfl rfl (.move rfl rfl) ?_
            refine WR.off (Gf rfl rfl rfl rfl) rfl rfl ?_
            refine WR.off (Gf rfl rfl rfl rfl) rfl rfl ?_
            refine WR.off (Gf rfl rfl rfl rfl) rfl rfl ?_
            refine WR.off (Gu rfl rfl rfl) rfl rfl ?_
            refine WR.off (Gu rfl rfl rfl) rfl rfl ?_
            refine WR.off (Gu rfl rfl rfl) rfl rfl ?_
            refine WR.off (Gf rfl rfl rfl rfl) rfl rfl ?_
            refine WR.val (G0 rfl) rfl rfl (.pick_f rfl rfl rfl rfl) ?_
            refine WR.val (G0 rfl) rfl rfl (.assign rfl rfl) ?_
            refine WR.nil ?_
            exact WA.ret1 rfl rfl (List.nil_sublist _) ⟨by congr 1; rw [Bool.eq_iff_iff]; simp_all [nvalid, Dot.eq_iff]; try (intros; omega), rfl⟩
        · have f46 := h31
          try simp only [decide_eq_true_eq, decide_eq_false_iff_not, Bool.not_eq_true', Bool.not_eq_false', Int.not_lt, Int.not_le] at f46
          refine WR.off (Gf rfl rfl rfl h31) rfl rfl ?_
          refine WR.off (Gf rfl rfl rfl h31) rfl rfl ?_
          refine WR.off (Gf rfl rfl rfl h31) rfl rfl ?_
          refine WR.val (G0 rfl) rfl rfl (.pick_f rfl rfl h31 rfl) ?_
          refine WR.val (G0 rfl) rfl rfl (.move rfl rfl) ?_
          refine WR.off (Gf rfl rfl rfl rfl) rfl rfl ?_
          refine WR.off (Gf rfl rfl rfl rfl) rfl rfl ?_
          refine WR.off (Gf rfl rfl rfl rfl) rfl rfl ?_
          refine WR.val (G0 rfl) rfl rfl (.pick_f rfl rfl rfl rfl) ?_
          refine WR.val (G0 rfl) rfl rfl (.move rfl rfl) ?_
          refine WR.off (Gf rfl rfl rfl rfl) rfl rfl ?_
          refine WR.off (Gf rfl rfl rfl rfl) rfl rfl ?_
          refine WR.off (Gf rfl rfl rfl rfl) rfl rfl ?_
          refine WR.off (Gu rfl rfl rfl) rfl rfl ?_
          refine WR.off (Gu rfl rfl rfl) rfl rfl ?_
          refine WR.off (Gu rfl rfl rfl) rfl rfl ?_
          refine WR.off (Gf rfl rfl rfl rfl) rfl rfl ?_
          refine WR.val (G0 rfl) rfl rfl (.pick_f rfl rfl rfl rfl) ?_
          refine WR.val (G0 rfl) rfl rfl (.assign rfl rfl) ?_
          refine WR.nil ?_
          exact WA.ret1 rfl rfl (List.nil_sublist _) ⟨by congr 1; rw [Bool.eq_iff_iff]; simp_all [nvalid, Dot.eq_iff]; try (intros; omega), rfl⟩
      · have f47 := h28
        try simp only [decide_eq_true_eq, decide_eq_false_iff_not, Bool.not_eq_true', Bool.not_eq_false', Int.not_lt, Int.not_le] at f47
        refine WR.off (Gf rfl rfl rfl h28) rfl rfl ?_
        refine WR.off (Gf rfl rfl rfl h28) rfl rfl ?_
        refine WR.off (Gf rfl rfl rfl h28) rfl rfl ?_
        refine WR.off (Gf rfl rfl rfl h28) rfl rfl ?_
        refine WR.off (Gf rfl rfl rfl h28) rfl rfl ?_
        refine WR.val (G0 rfl) rfl rfl (.pick_f rfl rfl h28 rfl) ?_
        refine WR.val (G0 rfl) rfl rfl (.move rfl rfl) ?_
        refine WR.off (Gf rfl rfl rfl rfl) rfl rfl ?_
        refine WR.off (Gf rfl rfl rfl rfl) rfl rfl ?_
        refine WR.off (Gf rfl rfl rfl rfl) rfl rfl ?_
        refine WR.val (G0 rfl) rfl rfl (.pick_f rfl rfl rfl rfl) ?_
        refine WR.val (G0 rfl) rfl rfl (.move rfl rfl) ?_
        refine WR.off (Gf rfl rfl rfl rfl) rfl rfl ?_
        refine WR.off (Gf rfl rfl rfl rfl) rfl rfl ?_
        refine WR.off (Gf rfl rfl rfl rfl) rfl rfl ?_
        refine WR.val (G0 rfl) rfl rfl (.pick_f rfl rfl rfl rfl) ?_
        refine WR.val (G0 rfl) rfl rfl (.move rfl rfl) ?_
        refine WR.off (Gf rfl rfl rfl rfl) rfl rfl ?_
        refine WR.off (Gf rfl rfl rfl rfl) rfl rfl ?_
        refine WR.off (Gf rfl rfl rfl rfl) rfl rfl ?_
        refine WR.off (Gu rfl rfl rfl) rfl rfl ?_
        refine WR.off (Gu rfl rfl rfl) rfl rfl ?_
        refine WR.off (Gu rfl rfl rfl) rfl rfl ?_
        refine WR.off (Gf rfl rfl rfl rfl) rfl rfl ?_
        refine WR.val (G0 rfl) rfl rfl (.pick_f rfl rfl rfl rfl) ?_
        refine WR.val (G0 rfl) rfl rfl (.assign rfl rfl) ?_
        refine WR.nil ?_
        exact WA.ret1 rfl rfl (List.nil_sublist _) ⟨by congr 1; rw [Bool.eq_iff_iff]; simp_all [nvalid, Dot.eq_iff]; try (intros; omega), rfl⟩
  · have f48 := h4
    try simp only [decide_eq_true_eq, decide_eq_false_iff_not, Bool.not_eq_true', Bool.not_eq_false', Int.not_lt, Int.not_le] at f48
    refine WR.off (Gf rfl rfl rfl h4) rfl rfl ?_
    refine WR.off (Gf rfl rfl rfl h4) rfl rfl ?_
    refine WR.off (Gf rfl rfl rfl h4) rfl rfl ?_
    refine WR.off (Gf rfl rfl rfl h4) rfl rfl ?_
    refine WR.off (Gu rfl rfl rfl) rfl rfl ?_
    refine WR.off (Gu rfl rfl rfl) rfl rfl ?_
    refine WR.off (Gu rfl rfl rfl) rfl rfl ?_
    refine WR.off (Gf rfl rfl rfl h4) rfl rfl ?_
    refine WR.val (G0 rfl) rfl rfl (.pick_f rfl rfl h4 rfl) ?_
    refine WR.val (G0 rfl) rfl rfl (.move rfl rfl) ?_
    refine WR.off (Gf rfl rfl rfl rfl) rfl rfl ?_
    refine WR.off (Gf rfl rfl rfl rfl) rfl rfl ?_
    refine WR.off (Gf rfl rfl rfl rfl) rfl rfl ?_
    refine WR.off (Gf rfl rfl rfl rfl) rfl rfl ?_
    refine WR.off (Gf rfl rfl rfl rfl) rfl rfl ?_
    refine WR.val (G0 rfl) rfl rfl (.pick_f rfl rfl rfl rfl) ?_
    refine WR.val (G0 rfl) rfl rfl (.move rfl rfl) ?_
    refine WR.off (Gf rfl rfl rfl rfl) rfl rfl ?_
    refine WR.off (Gf rfl rfl rfl rfl) rfl rfl ?_
    refine WR.off (Gf rfl rfl rfl rfl) rfl rfl ?_
    refine WR.val (G0 rfl) rfl rfl (.pick_f rfl rfl rfl rfl) ?_
    refine WR.val (G0 rfl) rfl rfl (.move rfl rfl) ?_
    refine WR.off (Gf rfl rfl rfl rfl) rfl rfl ?_
    refine WR.off (Gf rfl rfl rfl rfl) rfl rfl ?_
    refine WR.off (Gf rfl rfl rfl rfl) rfl rfl ?_
    refine WR.val (G0 rfl) rfl rfl (.pick_f rfl rfl rfl rfl) ?_
    refine WR.val (G0 rfl) rfl rfl (.move rfl rfl) ?_
    refine WR.off (Gf rfl rfl rfl rfl) rfl rfl ?_
    refine WR.off (Gf rfl rfl rfl rfl) rfl rfl ?_
    refine WR.off (Gf rfl rfl rfl rfl) rfl rfl ?_
    refine WR.off (Gu rfl rfl rfl) rfl rfl ?_
    refine WR.off (Gu rfl rfl rfl) rfl rfl ?_
    refine WR.off (Gu rfl rfl rfl) rfl rfl ?_
    refine WR.off (Gf rfl rfl rfl rfl) rfl rfl ?_
    refine WR.val (G0 rfl) rfl rfl (.pick_f rfl rfl rfl rfl) ?_
    refine WR.val (G0 rfl) rfl rfl (.assign rfl rfl) ?_
    refine WR.nil ?_
    exact WA.ret1 rfl rfl (List.nil_sublist _) ⟨by congr 1; rw [Bool.eq_iff_iff]; simp_all [nvalid, Dot.eq_iff]; try (intros; omega), rfl⟩
set_option maxRecDepth 20000 in
/-- redpencil/node.Kill -/
theorem killF (n : Nd) (w : World) : Ct Tryz.prog 165 #[nv n] [] w (fun u hs => u = nv (kill n) ∧ hs = []) := by
  refine Ct.intro Tryz.func165 rfl Tryz.ntmps165 rfl ?_
  refine WA.seq ?_
  refine WA.region ?_
  refine WR.dw (G0 rfl) rfl rfl (.box (vs := [_, _, _, _, _, _]) rfl rfl rfl) ?_
  rintro _ _ ⟨b2, rfl, rfl⟩
  refine WR.dw (G0 rfl) rfl rfl (.alloc (vs := [_, _, _, _, _, _]) rfl ZT_42 rfl) ?_
  rintro _ _ ⟨b4, rfl, rfl⟩
  refine WR.nil ?_
  refine WA.seq ?_
  refine WA.region ?_
  refine WR.val (G0 rfl) rfl rfl (.fa rfl FA_42_3 rfl) ?_
  refine WR.dw0 (G0 rfl) rfl (.store (i := 1) rfl NA_21.2 rfl rfl [_] rfl rfl (by intro u hu; simp at hu; subst hu; rfl) rfl rfl) ?_
  rintro _ _ ⟨rfl, rfl⟩
  refine WR.nil ?_
  refine WA.seq ?_
  refine WA.region ?_
  refine WR.val (G0 rfl) rfl rfl (.loadK (vs := [_, _, _, _, _, _]) rfl AG_42 rfl (fun _ hw => hw.rd_blk (k := 6) 1 rfl rfl)) ?_
  refine WR.dw0 (G0 rfl) rfl (.store (i := 0) rfl AG_42.2 rfl rfl [_, _, _, _, _, _] rfl rfl (by intro u hu; simp at hu; rcases hu with rfl | rfl | rfl | rfl | rfl | rfl <;> rfl) rfl rfl) ?_
  rintro _ _ ⟨rfl, rfl⟩
  refine WR.nil ?_
  exact WA.retv1 rfl (.cellK (vs := [_, _, _, _, _, _]) AG_42 rfl (fun _ hw => hw.rd_blk (k := 6) 0 rfl rfl)) (List.nil_sublist _) ⟨rfl, rfl⟩
set_option maxRecDepth 20000 in
/-- redpencil/node.Before -/
theorem beforeF (a b : Nd) (w : World) : Ct Tryz.prog 259 #[nv a, nv b] [] w (fun u hs => u = .bool (nfirst a b) ∧ hs = []) := by
  refine Ct.intro Tryz.func259 rfl Tryz.ntmps259 rfl ?_
  refine WA.seq ?_
  refine WA.region ?_
  refine WR.dw (G0 rfl) rfl rfl (.box (vs := [_, _, _, _, _, _]) rfl rfl rfl) ?_
  rintro _ _ ⟨b2, rfl, rfl⟩
  refine WR.dw (G0 rfl) rfl rfl (.box (vs := [_, _, _, _, _, _]) rfl rfl rfl) ?_
  rintro _ _ ⟨b4, rfl, rfl⟩
  refine WR.val (G0 rfl) rfl rfl (.assign rfl rfl) ?_
  refine WR.nil ?_
  refine WA.seq ?_
  refine WA.draws0 follows ?_
  refine WH.take 0 rfl (Pf_blind _ _ _ _ _) (by kernel_rfl) (by kernel_rfl) (by kernel_rfl) (.refl _) (G0 rfl) rfl rfl (.fa rfl FA_42_2 rfl) ?_
  refine WH.take 1 rfl (Pf_blind _ _ _ _ _) (by kernel_rfl) (by kernel_rfl) (by kernel_rfl) (.refl _) (G0 rfl) rfl rfl (.load1 rfl NA_3 rfl (fun _ hw => hw.rd_blk (k := 1) 0 rfl rfl)) ?_
  refine WH.take 2 rfl (Pf_blind _ _ _ _ _) (by kernel_rfl) (by kernel_rfl) (by kernel_rfl) (.refl _) (G0 rfl) rfl rfl (.fa rfl FA_42_2 rfl) ?_
  refine WH.take 3 rfl (Pf_blind _ _ _ _ _) (by kernel_rfl) (by kernel_rfl) (by kernel_rfl) (.refl _) (G0 rfl) rfl rfl (.load1 rfl NA_3 rfl (fun _ hw => hw.rd_blk (k := 1) 1 rfl rfl)) ?_
  refine WH.take 5 rfl (Pf_blind _ _ _ _ _) (by kernel_rfl) (by kernel_rfl) (by kernel_rfl) (.refl _) (G0 rfl) rfl rfl (.fa rfl FA_42_0 rfl) ?_
  refine WH.take 6 rfl (Pf_blind _ _ _ _ _) (by kernel_rfl) (by kernel_rfl) (by kernel_rfl) (.refl _) (G0 rfl) rfl rfl (.loadK (vs := [_, _]) rfl AG_39 rfl (fun _ hw => hw.rd_blk (k := 2) 0 rfl rfl)) ?_
  refine WH.take 7 rfl (Pf_blind _ _ _ _ _) (by kernel_rfl) (by kernel_rfl) (by kernel_rfl) (.refl _) (G0 rfl) rfl rfl (.fa rfl FA_42_0 rfl) ?_
  refine WH.take 8 rfl (Pf_blind _ _ _ _ _) (by kernel_rfl) (by kernel_rfl) (by kernel_rfl) (.refl _) (G0 rfl) rfl rfl (.loadK (vs := [_, _]) rfl AG_39 rfl (fun _ hw => hw.rd_blk (k := 2) 1 rfl rfl)) ?_
  refine WH.dw 4 rfl (by kernel_rfl) (G0 rfl) rfl rfl (.callv (caps := []) rfl rfl rfl EN_106 (fun w hw => icmpF _ _ w)) ?_
  rintro _ _ ⟨rfl, rfl⟩
  refine ⟨(.refl _), ?_⟩
  refine WH.dw 9 rfl (by kernel_rfl) (G0 rfl) rfl rfl (.callv (caps := []) rfl rfl rfl EN_107 (fun w hw => dcmpF _ _ w)) ?_
  rintro _ _ ⟨rfl, rfl⟩
  refine ⟨(.refl _), ?_⟩
  refine WH.dw 10 rfl (by kernel_rfl) (G0 rfl) rfl rfl (.buildSlice (k := 1) (e := 3) (vs := [_, _]) rfl rfl rfl (fun _ => by kernel_rfl) rfl) ?_
  rintro _ _ ⟨b8, rfl, rfl⟩
  refine ⟨(.cons _ (.refl _)), ?_⟩
  refine WH.dw 11 rfl (by kernel_rfl) (G0 rfl) rfl rfl (.callv (caps := []) rfl rfl rfl EN_105 (fun w hw => orF [icmp b.t a.t, dcmp b.d a.d] _ _ w (hw.slf_blk 0 rfl rfl (by simp [maxLen])) (by simp))) ?_
  rintro _ _ ⟨rfl, rfl⟩
  refine ⟨(.cons _ (.refl _)), ?_⟩
  refine WH.take 12 rfl (Pf_blind _ _ _ _ _) (by kernel_rfl) (by kernel_rfl) (by kernel_rfl) (.cons _ (.refl _)) (G0 rfl) rfl rfl (.lss rfl rfl rfl) ?_
  refine WH.take 13 rfl (Pf_blind _ _ _ _ _) (by kernel_rfl) (by kernel_rfl) (by kernel_rfl) (.cons _ (.refl _)) (G0 rfl) rfl rfl (.assign rfl rfl) ?_
  refine WH.done (by kernel_rfl) ?_
  exact WA.ret1 rfl rfl (List.nil_sublist _) ⟨by rw [iorL_two]; congr 1; rw [Bool.eq_iff_iff, ← nfirst_or]; simp, rfl⟩
set_option maxRecDepth 20000 in
/-- redpencil/node.Merge -/
theorem mergeF (a b : Nd) (w : World) : Ct Tryz.prog 108 #[nv a, nv b] [] w (fun u hs => u = .tuple #[nv (nmerge a b).1, .int .i64 (nmerge a b).2] ∧ hs = []) := by
  refine Ct.intro Tryz.func108 rfl Tryz.ntmps108 rfl ?_
  refine WA.seq ?_
  refine WA.region ?_
  refine WR.dw (G0 rfl) rfl rfl (.box (vs := [_, _, _, _, _, _]) rfl rfl rfl) ?_
  rintro _ _ ⟨b2, rfl, rfl⟩
  refine WR.dw (G0 rfl) rfl rfl (.box (vs := [_, _, _, _, _, _]) rfl rfl rfl) ?_
  rintro _ _ ⟨b4, rfl, rfl⟩
  refine WR.dw (G0 rfl) rfl rfl (.alloc (vs := [_, _, _, _, _, _]) rfl ZT_42 rfl) ?_
  rintro _ _ ⟨b6, rfl, rfl⟩
  refine WR.val (G0 rfl) rfl rfl (.assign rfl rfl) ?_
  refine WR.nil ?_
  refine WA.seq ?_
  refine WA.block ?_
  refine WA.seq ?_
  refine WA.region ?_
  refine WR.val (G0 rfl) rfl rfl (.loadK (vs := [_, _, _, _, _, _]) rfl AG_42 rfl (fun _ hw => hw.rd_blk (k := 6) 2 rfl rfl)) ?_
  refine WR.dw (G0 rfl) rfl rfl (.callv (caps := []) rfl rfl rfl EN_164 (fun w hw => nvalidF _ w)) ?_
  rintro _ _ ⟨rfl, rfl⟩
  refine WR.val (G0 rfl) rfl rfl (.not rfl rfl) ?_
  refine WR.val (G0 rfl) rfl rfl (.move rfl rfl) ?_
  refine WR.split (d := 10) rfl (fun h9 => ?_) (fun h9 => ?_)
  · have f10 := h9
    try simp only [decide_eq_true_eq, decide_eq_false_iff_not, Bool.not_eq_true', Bool.not_eq_false', Int.not_lt, Int.not_le] at f10
    refine WR.off (Gf rfl rfl rfl h9) rfl rfl ?_
    refine WR.off (Gf rfl rfl rfl h9) rfl rfl ?_
    refine WR.off (Gf rfl rfl rfl h9) rfl rfl ?_
    refine WR.val (G0 rfl) rfl rfl (.pick_t rfl rfl h9 rfl) ?_
    refine WR.val (G0 rfl) rfl rfl (.assign rfl rfl) ?_
    refine WR.nil ?_
    refine WA.cond_t rfl rfl ?_
    refine WA.seq ?_
    refine WA.region ?_
    refine WR.val (G0 rfl) rfl rfl (.build (vs := [_, _, _, _, _, _]) [.int .i64 0, .int .i64 0, .int .i64 0, .int .i64 0, .int .i64 0, .int .i32 0] [0, 2, 4, 5] rfl rfl rfl (fun _ => by kernel_rfl)) ?_
    refine WR.dw0 (G0 rfl) rfl (.store (i := 0) rfl AG_42.2 rfl rfl [_, _, _, _, _, _] rfl rfl (by intro u hu; simp at hu; rcases hu with rfl | rfl | rfl | rfl | rfl | rfl <;> rfl) rfl rfl) ?_
    rintro _ _ ⟨rfl, rfl⟩
    refine WR.val (G0 rfl) rfl rfl (.assign rfl rfl) ?_
    refine WR.nil ?_
    exact WA.retv2 rfl (.cellK (vs := [_, _, _, _, _, _]) AG_42 rfl (fun _ hw => hw.rd_blk (k := 6) 0 rfl rfl)) (.tmp rfl) (List.nil_sublist _) ⟨by simp_all [nmerge, zn], rfl⟩
  · have f11 := h9
    try simp only [decide_eq_true_eq, decide_eq_false_iff_not, Bool.not_eq_true', Bool.not_eq_false', Int.not_lt, Int.not_le] at f11
    refine WR.val (Gt rfl rfl rfl h9) rfl rfl (.loadK (vs := [_, _, _, _, _, _]) rfl AG_42 rfl (fun _ hw => hw.rd_blk (k := 6) 1 rfl rfl)) ?_
    refine WR.dw (Gt rfl rfl rfl h9) rfl rfl (.callv (caps := []) rfl rfl rfl EN_164 (fun w hw => nvalidF _ w)) ?_
    rintro _ _ ⟨rfl, rfl⟩
    refine WR.val (Gt rfl rfl rfl h9) rfl rfl (.not rfl rfl) ?_
    refine WR.val (G0 rfl) rfl rfl (.pick_f rfl rfl h9 rfl) ?_
    refine WR.val (G0 rfl) rfl rfl (.assign rfl rfl) ?_
    refine WR.nil ?_
    refine WA.cond rfl (fun h14 => ?_) (fun h14 => ?_)
    · have f15 := h14
      try simp only [decide_eq_true_eq, decide_eq_false_iff_not, Bool.not_eq_true', Bool.not_eq_false', Int.not_lt, Int.not_le] at f15
      refine WA.seq ?_
      refine WA.region ?_
      refine WR.val (G0 rfl) rfl rfl (.build (vs := [_, _, _, _, _, _]) [.int .i64 0, .int .i64 0, .int .i64 0, .int .i64 0, .int .i64 0, .int .i32 0] [0, 2, 4, 5] rfl rfl rfl (fun _ => by kernel_rfl)) ?_
      refine WR.dw0 (G0 rfl) rfl (.store (i := 0) rfl AG_42.2 rfl rfl [_, _, _, _, _, _] rfl rfl (by intro u hu; simp at hu; rcases hu with rfl | rfl | rfl | rfl | rfl | rfl <;> rfl) rfl rfl) ?_
      rintro _ _ ⟨rfl, rfl⟩
      refine WR.val (G0 rfl) rfl rfl (.assign rfl rfl) ?_
      refine WR.nil ?_
      exact WA.retv2 rfl (.cellK (vs := [_, _, _, _, _, _]) AG_42 rfl (fun _ hw => hw.rd_blk (k := 6) 0 rfl rfl)) (.tmp rfl) (List.nil_sublist _) ⟨by simp_all [nmerge, zn], rfl⟩
    · have f16 := h14
      try simp only [decide_eq_true_eq, decide_eq_false_iff_not, Bool.not_eq_true', Bool.not_eq_false', Int.not_lt, Int.not_le] at f16
      refine WA.seq ?_
      refine WA.draws0 follows ?_
      refine WH.take 0 rfl (Pf_blind _ _ _ _ _) (by kernel_rfl) (by kernel_rfl) (by kernel_rfl) (.refl _) (G0 rfl) rfl rfl (.loadK (vs := [_, _, _, _, _, _]) rfl AG_42 rfl (fun _ hw => hw.rd_blk (k := 6) 2 rfl rfl)) ?_
      refine WH.take 2 rfl (Pf_blind _ _ _ _ _) (by kernel_rfl) (by kernel_rfl) (by kernel_rfl) (.refl _) (G0 rfl) rfl rfl (.loadK (vs := [_, _, _, _, _, _]) rfl AG_42 rfl (fun _ hw => hw.rd_blk (k := 6) 1 rfl rfl)) ?_
      refine WH.dw 1 rfl (by kernel_rfl) (G0 rfl) rfl rfl (.callv (caps := []) rfl rfl rfl EN_165 (fun w hw => killF _ w)) ?_
      rintro _ _ ⟨rfl, rfl⟩
      refine ⟨(.refl _), ?_⟩
      refine WH.dw 3 rfl (by kernel_rfl) (G0 rfl) rfl rfl (.callv (caps := []) rfl rfl rfl EN_165 (fun w hw => killF _ w)) ?_
      rintro _ _ ⟨rfl, rfl⟩
      refine ⟨(.refl _), ?_⟩
      refine WH.take 4 rfl (Pf_blind _ _ _ _ _) (by kernel_rfl) (by kernel_rfl) (by kernel_rfl) (.refl _) (G0 rfl) rfl rfl (.bin rfl rfl rfl EQT_neq_42) ?_
      refine WH.take 5 rfl (Pf_blind _ _ _ _ _) (by kernel_rfl) (by kernel_rfl) (by kernel_rfl) (.refl _) (G0 rfl) rfl rfl (.move rfl rfl) ?_
      refine WH.split (d := 22) rfl (fun h18 => ?_) (fun h18 => ?_)
      · have f19 := h18
        try simp only [decide_eq_true_eq, decide_eq_false_iff_not, Bool.not_eq_true', Bool.not_eq_false', Int.not_lt, Int.not_le] at f19
        refine WH.off 6 rfl (Pf_blind _ _ _ _ _) (by kernel_rfl) (by kernel_rfl) (by kernel_rfl) (.refl _) (Gf rfl rfl rfl h18) rfl rfl ?_
        refine WH.off 7 rfl (Pf_blind _ _ _ _ _) (by kernel_rfl) (by kernel_rfl) (by kernel_rfl) (.refl _) (Gf rfl rfl rfl h18) rfl rfl ?_
        refine WH.off 8 rfl (Pf_blind _ _ _ _ _) (by kernel_rfl) (by kernel_rfl) (by kernel_rfl) (.refl _) (Gf rfl rfl rfl h18) rfl rfl ?_
        refine WH.off 9 rfl (Pf_blind _ _ _ _ _) (by kernel_rfl) (by kernel_rfl) (by kernel_rfl) (.refl _) (Gf rfl rfl rfl h18) rfl rfl ?_
        refine WH.off 10 rfl (Pf_blind _ _ _ _ _) (by kernel_rfl) (by kernel_rfl) (by kernel_rfl) (.refl _) (Gu rfl rfl rfl) rfl rfl ?_
        refine WH.off 11 rfl (Pf_blind _ _ _ _ _) (by kernel_rfl) (by kernel_rfl) (by kernel_rfl) (.refl _) (Gu rfl rfl rfl) rfl rfl ?_
        refine WH.off 12 rfl (Pf_blind _ _ _ _ _) (by kernel_rfl) (by kernel_rfl) (by kernel_rfl) (.refl _) (Gu rfl rfl rfl) rfl rfl ?_
        refine WH.off 13 rfl (Pf_blind _ _ _ _ _) (by kernel_rfl) (by kernel_rfl) (by kernel_rfl) (.refl _) (Gf rfl rfl rfl h18) rfl rfl ?_
        refine WH.off 14 rfl (Pf_blind _ _ _ _ _) (by kernel_rfl) (by kernel_rfl) (by kernel_rfl) (.refl _) (Gf rfl rfl rfl h18) rfl rfl ?_
        refine WH.off 15 rfl (Pf_blind _ _ _ _ _) (by kernel_rfl) (by kernel_rfl) (by kernel_rfl) (.refl _) (Gu rfl rfl rfl) rfl rfl ?_
        refine WH.off 16 rfl (Pf_blind _ _ _ _ _) (by kernel_rfl) (by kernel_rfl) (by kernel_rfl) (.refl _) (Gu rfl rfl rfl) rfl rfl ?_
        refine WH.off 17 rfl (Pf_blind _ _ _ _ _) (by kernel_rfl) (by kernel_rfl) (by kernel_rfl) (.refl _) (Gu rfl rfl rfl) rfl rfl ?_
        refine WH.off 18 rfl (Pf_blind _ _ _ _ _) (by kernel_rfl) (by kernel_rfl) (by kernel_rfl) (.refl _) (Gf rfl rfl rfl h18) rfl rfl ?_
        refine WH.take 19 rfl (Pf_blind _ _ _ _ _) (by kernel_rfl) (by kernel_rfl) (by kernel_rfl) (.refl _) (G0 rfl) rfl rfl (.pick_t rfl rfl h18 rfl) ?_
        refine WH.take 20 rfl (Pf_blind _ _ _ _ _) (by kernel_rfl) (by kernel_rfl) (by kernel_rfl) (.refl _) (G0 rfl) rfl rfl (.assign rfl rfl) ?_
        refine WH.done (by kernel_rfl) ?_
        refine WA.cond_t rfl rfl ?_
        refine WA.seq ?_
        refine WA.region ?_
        refine WR.val (G0 rfl) rfl rfl (.build (vs := [_, _, _, _, _, _]) [.int .i64 0, .int .i64 0, .int .i64 0, .int .i64 0, .int .i64 0, .int .i32 0] [0, 2, 4, 5] rfl rfl rfl (fun _ => by kernel_rfl)) ?_
        refine WR.dw0 (G0 rfl) rfl (.store (i := 0) rfl AG_42.2 rfl rfl [_, _, _, _, _, _] rfl rfl (by intro u hu; simp at hu; rcases hu with rfl | rfl | rfl | rfl | rfl | rfl <;> rfl) rfl rfl) ?_
        rintro _ _ ⟨rfl, rfl⟩
        refine WR.val (G0 rfl) rfl rfl (.assign rfl rfl) ?_
        refine WR.nil ?_
        exact WA.retv2 rfl (.cellK (vs := [_, _, _, _, _, _]) AG_42 rfl (fun _ hw => hw.rd_blk (k := 6) 0 rfl rfl)) (.tmp rfl) (List.nil_sublist _) ⟨by simp_all [nmerge, zn], rfl⟩
      · have f20 := h18
        try simp only [decide_eq_true_eq, decide_eq_false_iff_not, Bool.not_eq_true', Bool.not_eq_false', Int.not_lt, Int.not_le] at f20
        refine WH.take 6 rfl (Pf_blind _ _ _ _ _) (by kernel_rfl) (by kernel_rfl) (by kernel_rfl) (.refl _) (Gt rfl rfl rfl h18) rfl rfl (.loadK (vs := [_, _, _, _, _, _]) rfl AG_42 rfl (fun _ hw => hw.rd_blk (k := 6) 2 rfl rfl)) ?_
        refine WH.take 7 rfl (Pf_blind _ _ _ _ _) (by kernel_rfl) (by kernel_rfl) (by kernel_rfl) (.refl _) (Gt rfl rfl rfl h18) rfl rfl (.loadK (vs := [_, _, _, _, _, _]) rfl AG_42 rfl (fun _ hw => hw.rd_blk (k := 6) 1 rfl rfl)) ?_
        refine WH.take 8 rfl (Pf_blind _ _ _ _ _) (by kernel_rfl) (by kernel_rfl) (by kernel_rfl) (.refl _) (Gt rfl rfl rfl h18) rfl rfl (.bin rfl rfl rfl EQT_neq_42) ?_
        refine WH.take 9 rfl (Pf_blind _ _ _ _ _) (by kernel_rfl) (by kernel_rfl) (by kernel_rfl) (.refl _) (Gt rfl rfl rfl h18) rfl rfl (.move rfl rfl) ?_
        refine WH.split (d := 26) rfl (fun h22 => ?_) (fun h22 => ?_)
        · have f23 := h22
          try simp only [decide_eq_true_eq, decide_eq_false_iff_not, Bool.not_eq_true', Bool.not_eq_false', Int.not_lt, Int.not_le] at f23
          refine WH.take 10 rfl (Pf_blind _ _ _ _ _) (by kernel_rfl) (by kernel_rfl) (by kernel_rfl) (.refl _) (Gt rfl rfl rfl h22) rfl rfl (.loadK (vs := [_, _, _, _, _, _]) rfl AG_42 rfl (fun _ hw => hw.rd_blk (k := 6) 2 rfl rfl)) ?_
          refine WH.dw 11 rfl (by kernel_rfl) (Gt rfl rfl rfl h22) rfl rfl (.callv (caps := []) rfl rfl rfl EN_166 (fun w hw => deadF _ w)) ?_
          rintro _ _ ⟨rfl, rfl⟩
          refine ⟨(.refl _), ?_⟩
          refine WH.take 12 rfl (Pf_blind _ _ _ _ _) (by kernel_rfl) (by kernel_rfl) (by kernel_rfl) (.refl _) (Gt rfl rfl rfl h22) rfl rfl (.not rfl rfl) ?_
          refine WH.take 13 rfl (Pf_blind _ _ _ _ _) (by kernel_rfl) (by kernel_rfl) (by kernel_rfl) (.refl _) (Gt rfl rfl rfl h18) rfl rfl (.pick_t rfl rfl h22 rfl) ?_
          refine WH.take 14 rfl (Pf_blind _ _ _ _ _) (by kernel_rfl) (by kernel_rfl) (by kernel_rfl) (.refl _) (Gt rfl rfl rfl h18) rfl rfl (.move rfl rfl) ?_
          refine WH.split (d := 31) rfl (fun h27 => ?_) (fun h27 => ?_)
          · have f28 := h27
            try simp only [decide_eq_true_eq, decide_eq_false_iff_not, Bool.not_eq_true', Bool.not_eq_false', Int.not_lt, Int.not_le] at f28
            refine WH.take 15 rfl (Pf_blind _ _ _ _ _) (by kernel_rfl) (by kernel_rfl) (by kernel_rfl) (.refl _) (Gt rfl rfl rfl h27) rfl rfl (.loadK (vs := [_, _, _, _, _, _]) rfl AG_42 rfl (fun _ hw => hw.rd_blk (k := 6) 1 rfl rfl)) ?_
            refine WH.dw 16 rfl (by kernel_rfl) (Gt rfl rfl rfl h27) rfl rfl (.callv (caps := []) rfl rfl rfl EN_166 (fun w hw => deadF _ w)) ?_
            rintro _ _ ⟨rfl, rfl⟩
            refine ⟨(.refl _), ?_⟩
            refine WH.take 17 rfl (Pf_blind _ _ _ _ _) (by kernel_rfl) (by kernel_rfl) (by kernel_rfl) (.refl _) (Gt rfl rfl rfl h27) rfl rfl (.not rfl rfl) ?_
            refine WH.take 18 rfl (Pf_blind _ _ _ _ _) (by kernel_rfl) (by kernel_rfl) (by kernel_rfl) (.refl _) (Gt rfl rfl rfl h18) rfl rfl (.pick_t rfl rfl h27 rfl) ?_
            refine WH.take 19 rfl (Pf_blind _ _ _ _ _) (by kernel_rfl) (by kernel_rfl) (by kernel_rfl) (.refl _) (G0 rfl) rfl rfl (.pick_f rfl rfl h18 rfl) ?_
            refine WH.take 20 rfl (Pf_blind _ _ _ _ _) (by kernel_rfl) (by kernel_rfl) (by kernel_rfl) (.refl _) (G0 rfl) rfl rfl (.assign rfl rfl) ?_
            refine WH.done (by kernel_rfl) ?_
            refine WA.cond rfl (fun h32 => ?_) (fun h32 => ?_)
            · have f33 := h32
              try simp only [decide_eq_true_eq, decide_eq_false_iff_not, Bool.not_eq_true', Bool.not_eq_false', Int.not_lt, Int.not_le] at f33
              refine WA.seq ?_
              refine WA.region ?_
              refine WR.val (G0 rfl) rfl rfl (.build (vs := [_, _, _, _, _, _]) [.int .i64 0, .int .i64 0, .int .i64 0, .int .i64 0, .int .i64 0, .int .i32 0] [0, 2, 4, 5] rfl rfl rfl (fun _ => by kernel_rfl)) ?_
              refine WR.dw0 (G0 rfl) rfl (.store (i := 0) rfl AG_42.2 rfl rfl [_, _, _, _, _, _] rfl rfl (by intro u hu; simp at hu; rcases hu with rfl | rfl | rfl | rfl | rfl | rfl <;> rfl) rfl rfl) ?_
              rintro _ _ ⟨rfl, rfl⟩
              refine WR.val (G0 rfl) rfl rfl (.assign rfl rfl) ?_
              refine WR.nil ?_
              exact WA.retv2 rfl (.cellK (vs := [_, _, _, _, _, _]) AG_42 rfl (fun _ hw => hw.rd_blk (k := 6) 0 rfl rfl)) (.tmp rfl) (List.nil_sublist _) ⟨by simp_all [nmerge, zn], rfl⟩
            · have f34 := h32
              try simp only [decide_eq_true_eq, decide_eq_false_iff_not, Bool.not_eq_true', Bool.not_eq_false', Int.not_lt, Int.not_le] at f34
              refine WA.seq ?_
              refine WA.region ?_
              refine WR.val (G0 rfl) rfl rfl (.loadK (vs := [_, _, _, _, _, _]) rfl AG_42 rfl (fun _ hw => hw.rd_blk (k := 6) 1 rfl rfl)) ?_
              refine WR.dw (G0 rfl) rfl rfl (.callv (caps := []) rfl rfl rfl EN_166 (fun w hw => deadF _ w)) ?_
              rintro _ _ ⟨rfl, rfl⟩
              refine WR.val (G0 rfl) rfl rfl (.assign rfl rfl) ?_
              refine WR.nil ?_
              refine WA.cond rfl (fun h36 => ?_) (fun h36 => ?_)
              · have f37 := h36
                try simp only [decide_eq_true_eq, decide_eq_false_iff_not, Bool.not_eq_true', Bool.not_eq_false', Int.not_lt, Int.not_le] at f37
                refine WA.seq ?_
                refine WA.region ?_
                refine WR.val (G0 rfl) rfl rfl (.loadK (vs := [_, _, _, _, _, _]) rfl AG_42 rfl (fun _ hw => hw.rd_blk (k := 6) 1 rfl rfl)) ?_
                refine WR.dw0 (G0 rfl) rfl (.store (i := 0) rfl AG_42.2 rfl rfl [_, _, _, _, _, _] rfl rfl (by intro u hu; simp at hu; rcases hu with rfl | rfl | rfl | rfl | rfl | rfl <;> rfl) rfl rfl) ?_
                rintro _ _ ⟨rfl, rfl⟩
                refine WR.val (G0 rfl) rfl rfl (.assign rfl rfl) ?_
                refine WR.nil ?_
                exact WA.retv2 rfl (.cellK (vs := [_, _, _, _, _, _]) AG_42 rfl (fun _ hw => hw.rd_blk (k := 6) 0 rfl rfl)) (.tmp rfl) (List.nil_sublist _) ⟨by simp_all [nmerge, zn], rfl⟩
              · have f38 := h36
                try simp only [decide_eq_true_eq, decide_eq_false_iff_not, Bool.not_eq_true', Bool.not_eq_false', Int.not_lt, Int.not_le] at f38
                refine WA.skip ?_
                refine WA.mark ?_
                refine WA.seq ?_
                refine WA.region ?_
                refine WR.val (G0 rfl) rfl rfl (.loadK (vs := [_, _, _, _, _, _]) rfl AG_42 rfl (fun _ hw => hw.rd_blk (k := 6) 2 rfl rfl)) ?_
                refine WR.dw0 (G0 rfl) rfl (.store (i := 0) rfl AG_42.2 rfl rfl [_, _, _, _, _, _] rfl rfl (by intro u hu; simp at hu; rcases hu with rfl | rfl | rfl | rfl | rfl | rfl <;> rfl) rfl rfl) ?_
                rintro _ _ ⟨rfl, rfl⟩
                refine WR.val (G0 rfl) rfl rfl (.assign rfl rfl) ?_
                refine WR.nil ?_
                exact WA.retv2 rfl (.cellK (vs := [_, _, _, _, _, _]) AG_42 rfl (fun _ hw => hw.rd_blk (k := 6) 0 rfl rfl)) (.tmp rfl) (List.nil_sublist _) ⟨by simp_all [nmerge, zn], rfl⟩
          · have f39 := h27
            try simp only [decide_eq_true_eq, decide_eq_false_iff_not, Bool.not_eq_true', Bool.not_eq_false', Int.not_lt, Int.not_le] at f39
            refine WH.off 15 rfl (Pf_blind _ _ _ _ _) (by kernel_rfl) (by kernel_rfl) (by kernel_rfl) (.refl _) (Gf rfl rfl rfl h27) rfl rfl ?_
            refine WH.off 16 rfl (Pf_blind _ _ _ _ _) (by kernel_rfl) (by kernel_rfl) (by kernel_rfl) (.refl _) (Gf rfl rfl rfl h27) rfl rfl ?_
            refine WH.off 17 rfl (Pf_blind _ _ _ _ _) (by kernel_rfl) (by kernel_rfl) (by kernel_rfl) (.refl _) (Gf rfl rfl rfl h27) rfl rfl ?_
            refine WH.take 18 rfl (Pf_blind _ _ _ _ _) (by kernel_rfl) (by kernel_rfl) (by kernel_rfl) (.refl _) (Gt rfl rfl rfl h18) rfl rfl (.pick_f rfl rfl h27 rfl) ?_
            refine WH.take 19 rfl (Pf_blind _ _ _ _ _) (by kernel_rfl) (by kernel_rfl) (by kernel_rfl) (.refl _) (G0 rfl) rfl rfl (.pick_f rfl rfl h18 rfl) ?_
            refine WH.take 20 rfl (Pf_blind _ _ _ _ _) (by kernel_rfl) (by kernel_rfl) (by kernel_rfl) (.refl _) (G0 rfl) rfl rfl (.assign rfl rfl) ?_
            refine WH.done (by kernel_rfl) ?_
            refine WA.cond_f rfl rfl ?_
            refine WA.seq ?_
            refine WA.region ?_
            refine WR.val (G0 rfl) rfl rfl (.loadK (vs := [_, _, _, _, _, _]) rfl AG_42 rfl (fun _ hw => hw.rd_blk (k := 6) 1 rfl rfl)) ?_
            refine WR.dw (G0 rfl) rfl rfl (.callv (caps := []) rfl rfl rfl EN_166 (fun w hw => deadF _ w)) ?_
            rintro _ _ ⟨rfl, rfl⟩
            refine WR.val (G0 rfl) rfl rfl (.assign rfl rfl) ?_
            refine WR.nil ?_
            refine WA.cond rfl (fun h41 => ?_) (fun h41 => ?_)
            · have f42 := h41
              try simp only [decide_eq_true_eq, decide_eq_false_iff_not, Bool.not_eq_true', Bool.not_eq_false', Int.not_lt, Int.not_le] at f42
              refine WA.seq ?_
              refine WA.region ?_
              refine WR.val (G0 rfl) rfl rfl (.loadK (vs := [_, _, _, _, _, _]) rfl AG_42 rfl (fun _ hw => hw.rd_blk (k := 6) 1 rfl rfl)) ?_
              refine WR.dw0 (G0 rfl) rfl (.store (i := 0) rfl AG_42.2 rfl rfl [_, _, _, _, _, _] rfl rfl (by intro u hu; simp at hu; rcases hu with rfl | rfl | rfl | rfl | rfl | rfl <;> rfl) rfl rfl) ?_
              rintro _ _ ⟨rfl, rfl⟩
              refine WR.val (G0 rfl) rfl rfl (.assign rfl rfl) ?_
              refine WR.nil ?_
              exact WA.retv2 rfl (.cellK (vs := [_, _, _, _, _, _]) AG_42 rfl (fun _ hw => hw.rd_blk (k := 6) 0 rfl rfl)) (.tmp rfl) (List.nil_sublist _) ⟨by simp_all [nmerge, zn], rfl⟩
            · have f43 := h41
              try simp only [decide_eq_true_eq, decide_eq_false_iff_not, Bool.not_eq_true', Bool.not_eq_false', Int.not_lt, Int.not_le] at f43
              refine WA.skip ?_
              refine WA.mark ?_
              refine WA.seq ?_
              refine WA.region ?_
              refine WR.val (G0 rfl) rfl rfl (.loadK (vs := [_, _, _, _, _, _]) rfl AG_42 rfl (fun _ hw => hw.rd_blk (k := 6) 2 rfl rfl)) ?_
              refine WR.dw0 (G0 rfl) rfl (.store (i := 0) rfl AG_42.2 rfl rfl [_, _, _, _, _, _] rfl rfl (by intro u hu; simp at hu; rcases hu with rfl | rfl | rfl | rfl | rfl | rfl <;> rfl) rfl rfl) ?_
              rintro _ _ ⟨rfl, rfl⟩
              refine WR.val (G0 rfl) rfl rfl (.assign rfl rfl) ?_
              refine WR.nil ?_
              exact WA.retv2 rfl (.cellK (vs := [_, _, _, _, _, _]) AG_42 rfl (fun _ hw => hw.rd_blk (k := 6) 0 rfl rfl)) (.tmp rfl) (List.nil_sublist _) ⟨by simp_all [nmerge, zn], rfl⟩
        · have f44 := h22
          try simp only [decide_eq_true_eq, decide_eq_false_iff_not, Bool.not_eq_true', Bool.not_eq_false', Int.not_lt, Int.not_le] at f44
          refine WH.off 10 rfl (Pf_blind _ _ _ _ _) (by kernel_rfl) (by kernel_rfl) (by kernel_rfl) (.refl _) (Gf rfl rfl rfl h22) rfl rfl ?_
          refine WH.off 11 rfl (Pf_blind _ _ _ _ _) (by kernel_rfl) (by kernel_rfl) (by kernel_rfl) (.refl _) (Gf rfl rfl rfl h22) rfl rfl ?_
          refine WH.off 12 rfl (Pf_blind _ _ _ _ _) (by kernel_rfl) (by kernel_rfl) (by kernel_rfl) (.refl _) (Gf rfl rfl rfl h22) rfl rfl ?_
          refine WH.take 13 rfl (Pf_blind _ _ _ _ _) (by kernel_rfl) (by kernel_rfl) (by kernel_rfl) (.refl _) (Gt rfl rfl rfl h18) rfl rfl (.pick_f rfl rfl h22 rfl) ?_
          refine WH.take 14 rfl (Pf_blind _ _ _ _ _) (by kernel_rfl) (by kernel_rfl) (by kernel_rfl) (.refl _) (Gt rfl rfl rfl h18) rfl rfl (.move rfl rfl) ?_
          refine WH.off 15 rfl (Pf_blind _ _ _ _ _) (by kernel_rfl) (by kernel_rfl) (by kernel_rfl) (.refl _) (Gf rfl rfl rfl rfl) rfl rfl ?_
          refine WH.off 16 rfl (Pf_blind _ _ _ _ _) (by kernel_rfl) (by kernel_rfl) (by kernel_rfl) (.refl _) (Gf rfl rfl rfl rfl) rfl rfl ?_
          refine WH.off 17 rfl (Pf_blind _ _ _ _ _) (by kernel_rfl) (by kernel_rfl) (by kernel_rfl) (.refl _) (Gf rfl rfl rfl rfl) rfl rfl ?_
          refine WH.take 18 rfl (Pf_blind _ _ _ _ _) (by kernel_rfl) (by kernel_rfl) (by kernel_rfl) (.refl _) (Gt rfl rfl rfl h18) rfl rfl (.pick_f rfl rfl rfl rfl) ?_
          refine WH.take 19 rfl (Pf_blind _ _ _ _ _) (by kernel_rfl) (by kernel_rfl) (by kernel_rfl) (.refl _) (G0 rfl) rfl rfl (.pick_f rfl rfl h18 rfl) ?_
          refine WH.take 20 rfl (Pf_blind _ _ _ _ _) (by kernel_rfl) (by kernel_rfl) (by kernel_rfl) (.refl _) (G0 rfl) rfl rfl (.assign rfl rfl) ?_
          refine WH.done (by kernel_rfl) ?_
          refine WA.cond_f rfl rfl ?_
          refine WA.seq ?_
          refine WA.region ?_
          refine WR.val (G0 rfl) rfl rfl (.loadK (vs := [_, _, _, _, _, _]) rfl AG_42 rfl (fun _ hw => hw.rd_blk (k := 6) 1 rfl rfl)) ?_
          refine WR.dw (G0 rfl) rfl rfl (.callv (caps := []) rfl rfl rfl EN_166 (fun w hw => deadF _ w)) ?_
          rintro _ _ ⟨rfl, rfl⟩
          refine WR.val (G0 rfl) rfl rfl (.assign rfl rfl) ?_
          refine WR.nil ?_
          refine WA.cond rfl (fun h46 => ?_) (fun h46 => ?_)
          · have f47 := h46
            try simp only [decide_eq_true_eq, decide_eq_false_iff_not, Bool.not_eq_true', Bool.not_eq_false', Int.not_lt, Int.not_le] at f47
            refine WA.seq ?_
            refine WA.region ?_
            refine WR.val (G0 rfl) rfl rfl (.loadK (vs := [_, _, _, _, _, _]) rfl AG_42 rfl (fun _ hw => hw.rd_blk (k := 6) 1 rfl rfl)) ?_
            refine WR.dw0 (G0 rfl) rfl (.store (i := 0) rfl AG_42.2 rfl rfl [_, _, _, _, _, _] rfl rfl (by intro u hu; simp at hu; rcases hu with rfl | rfl | rfl | rfl | rfl | rfl <;> rfl) rfl rfl) ?_
            rintro _ _ ⟨rfl, rfl⟩
            refine WR.val (G0 rfl) rfl rfl (.assign rfl rfl) ?_
            refine WR.nil ?_
            exact WA.retv2 rfl (.cellK (vs := [_, _, _, _, _, _]) AG_42 rfl (fun _ hw => hw.rd_blk (k := 6) 0 rfl rfl)) (.tmp rfl) (List.nil_sublist _) ⟨by simp_all [nmerge, zn], rfl⟩
          · have f48 := h46
            try simp only [decide_eq_true_eq, decide_eq_false_iff_not, Bool.not_eq_true', Bool.not_eq_false', Int.not_lt, Int.not_le] at f48
            refine WA.skip ?_
            refine WA.mark ?_
            refine WA.seq ?_
            refine WA.region ?_
            refine WR.val (G0 rfl) rfl rfl (.loadK (vs := [_, _, _, _, _, _]) rfl AG_42 rfl (fun _ hw => hw.rd_blk (k := 6) 2 rfl rfl)) ?_
            refine WR.dw0 (G0 rfl) rfl (.store (i := 0) rfl AG_42.2 rfl rfl [_, _, _, _, _, _] rfl rfl (by intro u hu; simp at hu; rcases hu with rfl | rfl | rfl | rfl | rfl | rfl <;> rfl) rfl rfl) ?_
            rintro _ _ ⟨rfl, rfl⟩
            refine WR.val (G0 rfl) rfl rfl (.assign rfl rfl) ?_
            refine WR.nil ?_
            exact WA.retv2 rfl (.cellK (vs := [_, _, _, _, _, _]) AG_42 rfl (fun _ hw => hw.rd_blk (k := 6) 0 rfl rfl)) (.tmp rfl) (List.nil_sublist _) ⟨by simp_all [nmerge, zn], rfl⟩
set_option maxRecDepth 20000 in
/-- redpencil/store.invalid -/
theorem invalidF (n : Nd) (w : World) : Ct Tryz.prog 134 #[nv n] [] w (fun u hs => u = .bool (!nvalid n) ∧ hs = []) := by
  refine Ct.intro Tryz.func134 rfl Tryz.ntmps134 rfl ?_
  refine WA.seq ?_
  refine WA.region ?_
  refine WR.dw (G0 rfl) rfl rfl (.box (vs := [_, _, _, _, _, _]) rfl rfl rfl) ?_
  rintro _ _ ⟨b2, rfl, rfl⟩
  refine WR.val (G0 rfl) rfl rfl (.assign rfl rfl) ?_
  refine WR.nil ?_
  refine WA.seq ?_
  refine WA.region ?_
  refine WR.val (G0 rfl) rfl rfl (.loadK (vs := [_, _, _, _, _, _]) rfl AG_42 rfl (fun _ hw => hw.rd_blk (k := 6) 0 rfl rfl)) ?_
  refine WR.dw (G0 rfl) rfl rfl (.callv (caps := []) rfl rfl rfl EN_164 (fun w hw => nvalidF _ w)) ?_
  rintro _ _ ⟨rfl, rfl⟩
  refine WR.val (G0 rfl) rfl rfl (.not rfl rfl) ?_
  refine WR.val (G0 rfl) rfl rfl (.assign rfl rfl) ?_
  refine WR.nil ?_
  exact WA.ret1 rfl rfl (List.nil_sublist _) ⟨rfl, rfl⟩
end Go.Proofs.YtpbillinpjccdaaGreat.Fb
