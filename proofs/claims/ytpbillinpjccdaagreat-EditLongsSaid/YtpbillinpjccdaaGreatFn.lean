/- Contracts: references. -/
import Derived.Test.YtpbillinpjccdaaGreatFm
import Derived.Test.YtpbillinpjccdaaGreatRm
namespace Go.Proofs.YtpbillinpjccdaaGreat.Fn
open Go.RowKit Go.J Go.R Go.Proofs.YtpbillinpjccdaaGreat.Fa Go.Proofs.YtpbillinpjccdaaGreat.Fb Go.Proofs.YtpbillinpjccdaaGreat.Fc Go.Proofs.YtpbillinpjccdaaGreat.Fd Go.Proofs.YtpbillinpjccdaaGreat.Fe Go.Proofs.YtpbillinpjccdaaGreat.Fg Go.Proofs.YtpbillinpjccdaaGreat.Fh Go.Proofs.YtpbillinpjccdaaGreat.Fi Go.Proofs.YtpbillinpjccdaaGreat.Fj Go.Proofs.YtpbillinpjccdaaGreat.Fk Go.Proofs.YtpbillinpjccdaaGreat.Fl Go.Proofs.YtpbillinpjccdaaGreat.Fm
set_option linter.unusedVariables false
set_option linter.unusedSimpArgs false
theorem follows : Tryz.prog.follows .mixedOrders = true := by kernel_rfl
theorem AG_39 : AG Tryz.prog 39 2 := ⟨Tryz.isAgg39, Tryz.sizeOf39⟩
theorem AG_42 : AG Tryz.prog 42 6 := ⟨Tryz.isAgg42, Tryz.sizeOf42⟩
theorem EN_112 : Enters Tryz.prog 112 := enters_of Tryz.func112 (by kernel_rfl) rfl
theorem EN_114 : Enters Tryz.prog 114 := enters_of Tryz.func114 (by kernel_rfl) rfl
theorem EN_128 : Enters Tryz.prog 128 := enters_of Tryz.func128 (by kernel_rfl) rfl
theorem EN_129 : Enters Tryz.prog 129 := enters_of Tryz.func129 (by kernel_rfl) rfl
theorem EN_130 : Enters Tryz.prog 130 := enters_of Tryz.func130 (by kernel_rfl) rfl
theorem EN_131 : Enters Tryz.prog 131 := enters_of Tryz.func131 (by kernel_rfl) rfl
theorem EN_59 : Enters Tryz.prog 59 := enters_of Tryz.func59 (by kernel_rfl) rfl
theorem EQ_eql_39 {a0 a1 b0 b1 : Int} : ∀ x y w, (do eqGuard .eql 39 x y (.agg #[.int .i64 a0, .int .i64 a1]) (.agg #[.int .i64 b0, .int .i64 b1]); binOp .eql 39 (.agg #[.int .i64 a0, .int .i64 a1]) (.agg #[.int .i64 b0, .int .i64 b1]) : Sem Value).run Tryz.prog w = .ok (.bool (decide (a0 = b0) && (decide (a1 = b1)))) w := fun x y w => by
  simp [go_sem]
  by_cases a0 = b0 <;> by_cases a1 = b1 <;> simp [*]
theorem EQT_eql_39 {a b : Dot} : ∀ x y w, (do eqGuard .eql 39 x y (dv a) (dv b); binOp .eql 39 (dv a) (dv b) : Sem Value).run Tryz.prog w = .ok (.bool (decide (a = b))) w := fun x y w => by
  simp [go_sem]
  by_cases a.r = b.r <;> by_cases a.c = b.c <;> simp [Dot.eq_iff, *]
theorem EQT_neq_39 {a b : Dot} : ∀ x y w, (do eqGuard .neq 39 x y (dv a) (dv b); binOp .neq 39 (dv a) (dv b) : Sem Value).run Tryz.prog w = .ok (.bool (!decide (a = b))) w := fun x y w => by
  simp [go_sem]
  by_cases a.r = b.r <;> by_cases a.c = b.c <;> simp [Dot.eq_iff, *]
theorem EQT_neq_42 {a b : Nd} : ∀ x y w, (do eqGuard .neq 42 x y (nv a) (nv b); binOp .neq 42 (nv a) (nv b) : Sem Value).run Tryz.prog w = .ok (.bool (!decide (a = b))) w := fun x y w => by
  simp [go_sem]
  by_cases a.d.r = b.d.r <;> by_cases a.d.c = b.d.c <;> by_cases a.p.r = b.p.r <;> by_cases a.p.c = b.p.c <;> by_cases a.t = b.t <;> by_cases a.x = b.x <;> simp [Nd.eq_iff, Dot.eq_iff, *]
theorem FA_39_0 : FA Tryz.prog 39 0 0 := fun ad w => by simp [Instr.fieldAt, run_underlying Tryz.underlying39, Instr.sureAddr, fieldPlace, Tryz.sizeOf3]
theorem FA_39_1 : FA Tryz.prog 39 1 1 := fun ad w => by simp [Instr.fieldAt, run_underlying Tryz.underlying39, Instr.sureAddr, fieldPlace, Tryz.sizeOf3]
theorem FA_42_0 : FA Tryz.prog 42 0 0 := fun ad w => by simp [Instr.fieldAt, run_underlying Tryz.underlying42, Instr.sureAddr, fieldPlace, Tryz.sizeOf39]
theorem FA_42_1 : FA Tryz.prog 42 1 2 := fun ad w => by simp [Instr.fieldAt, run_underlying Tryz.underlying42, Instr.sureAddr, fieldPlace, Tryz.sizeOf39]
theorem FA_42_2 : FA Tryz.prog 42 2 4 := fun ad w => by simp [Instr.fieldAt, run_underlying Tryz.underlying42, Instr.sureAddr, fieldPlace, Tryz.sizeOf3]
theorem FA_42_3 : FA Tryz.prog 42 3 5 := fun ad w => by simp [Instr.fieldAt, run_underlying Tryz.underlying42, Instr.sureAddr, fieldPlace, Tryz.sizeOf21]
theorem NA_21 : NA Tryz.prog 21 := ⟨Tryz.isAgg21, Tryz.sizeOf21⟩
theorem NA_3 : NA Tryz.prog 3 := ⟨Tryz.isAgg3, Tryz.sizeOf3⟩
theorem ST_23 : ST Tryz.prog 23 42 6 := ⟨Tryz.underlying23, Tryz.sizeOf42⟩
theorem ZT_42 : ZT Tryz.prog 42 (.agg #[.int .i64 0, .int .i64 0, .int .i64 0, .int .i64 0, .int .i64 0, .int .i32 0]) 6 48 := by unfold ZT; kernel_rfl

set_option maxRecDepth 20000 in
/-- redpencil/redpencilref14.Before -/
theorem jbeforeF (a b : Dot) (w : World) : Ct Tryz.prog 129 #[dv a, dv b] [] w (fun u hs => u = .bool (decide (dlt a b)) ∧ hs = []) := by
  refine Ct.intro Tryz.func129 rfl Tryz.ntmps129 rfl ?_
  refine WA.seq ?_
  refine WA.region ?_
  refine WR.dw (G0 rfl) rfl rfl (.box (vs := [_, _]) rfl rfl rfl) ?_
  rintro _ _ ⟨b2, rfl, rfl⟩
  refine WR.dw (G0 rfl) rfl rfl (.box (vs := [_, _]) rfl rfl rfl) ?_
  rintro _ _ ⟨b4, rfl, rfl⟩
  refine WR.val (G0 rfl) rfl rfl (.assign rfl rfl) ?_
  refine WR.nil ?_
  refine WA.seq ?_
  refine WA.region ?_
  refine WR.val (G0 rfl) rfl rfl (.fa rfl FA_39_1 rfl) ?_
  refine WR.val (G0 rfl) rfl rfl (.load1 rfl NA_3 rfl (fun _ hw => hw.rd_blk (k := 1) 1 rfl rfl)) ?_
  refine WR.val (G0 rfl) rfl rfl (.fa rfl FA_39_1 rfl) ?_
  refine WR.val (G0 rfl) rfl rfl (.load1 rfl NA_3 rfl (fun _ hw => hw.rd_blk (k := 1) 0 rfl rfl)) ?_
  refine WR.val (G0 rfl) rfl rfl (.lss rfl rfl rfl) ?_
  refine WR.val (G0 rfl) rfl rfl (.move rfl rfl) ?_
  refine WR.split (d := 10) rfl (fun h6 => ?_) (fun h6 => ?_)
  · have f7 := h6
    try simp only [decide_eq_true_eq, decide_eq_false_iff_not, Bool.not_eq_true', Bool.not_eq_false', Int.not_lt, Int.not_le] at f7
    refine WR.off (Gf rfl rfl rfl h6) rfl rfl ?_
    refine WR.off (Gf rfl rfl rfl h6) rfl rfl ?_
    refine WR.off (Gf rfl rfl rfl h6) rfl rfl ?_
    refine WR.off (Gf rfl rfl rfl h6) rfl rfl ?_
    refine WR.off (Gf rfl rfl rfl h6) rfl rfl ?_
    refine WR.off (Gf rfl rfl rfl h6) rfl rfl ?_
    refine WR.off (Gu rfl rfl rfl) rfl rfl ?_
    refine WR.off (Gu rfl rfl rfl) rfl rfl ?_
    refine WR.off (Gu rfl rfl rfl) rfl rfl ?_
    refine WR.off (Gu rfl rfl rfl) rfl rfl ?_
    refine WR.off (Gu rfl rfl rfl) rfl rfl ?_
    refine WR.off (Gf rfl rfl rfl h6) rfl rfl ?_
    refine WR.val (G0 rfl) rfl rfl (.pick_t rfl rfl h6 rfl) ?_
    refine WR.val (G0 rfl) rfl rfl (.assign rfl rfl) ?_
    refine WR.nil ?_
    exact WA.ret1 rfl rfl (List.nil_sublist _) ⟨by congr 1; rw [Bool.eq_iff_iff]; simp_all [dlt] <;> omega, rfl⟩
  · have f8 := h6
    try simp only [decide_eq_true_eq, decide_eq_false_iff_not, Bool.not_eq_true', Bool.not_eq_false', Int.not_lt, Int.not_le] at f8
    refine WR.val (Gt rfl rfl rfl h6) rfl rfl (.fa rfl FA_39_1 rfl) ?_
    refine WR.val (Gt rfl rfl rfl h6) rfl rfl (.load1 rfl NA_3 rfl (fun _ hw => hw.rd_blk (k := 1) 1 rfl rfl)) ?_
    refine WR.val (Gt rfl rfl rfl h6) rfl rfl (.fa rfl FA_39_1 rfl) ?_
    refine WR.val (Gt rfl rfl rfl h6) rfl rfl (.load1 rfl NA_3 rfl (fun _ hw => hw.rd_blk (k := 1) 0 rfl rfl)) ?_
    refine WR.val (Gt rfl rfl rfl h6) rfl rfl (.eql rfl rfl rfl) ?_
    refine WR.val (Gt rfl rfl rfl h6) rfl rfl (.move rfl rfl) ?_
    refine WR.split (d := 16) rfl (fun h10 => ?_) (fun h10 => ?_)
    · have f11 := h10
      try simp only [decide_eq_true_eq, decide_eq_false_iff_not, Bool.not_eq_true', Bool.not_eq_false', Int.not_lt, Int.not_le] at f11
      refine WR.val (Gt rfl rfl rfl h10) rfl rfl (.fa rfl FA_39_0 rfl) ?_
      refine WR.val (Gt rfl rfl rfl h10) rfl rfl (.load1 rfl NA_3 rfl (fun _ hw => hw.rd_blk (k := 1) 1 rfl rfl)) ?_
      refine WR.val (Gt rfl rfl rfl h10) rfl rfl (.fa rfl FA_39_0 rfl) ?_
      refine WR.val (Gt rfl rfl rfl h10) rfl rfl (.load1 rfl NA_3 rfl (fun _ hw => hw.rd_blk (k := 1) 0 rfl rfl)) ?_
      refine WR.val (Gt rfl rfl rfl h10) rfl rfl (.lss rfl rfl rfl) ?_
      refine WR.val (Gt rfl rfl rfl h6) rfl rfl (.pick_t rfl rfl h10 rfl) ?_
      refine WR.val (G0 rfl) rfl rfl (.pick_f rfl rfl h6 rfl) ?_
      refine WR.val (G0 rfl) rfl rfl (.assign rfl rfl) ?_
      refine WR.nil ?_
      exact WA.ret1 rfl rfl (List.nil_sublist _) ⟨by congr 1; rw [Bool.eq_iff_iff]; simp_all [dlt] <;> omega, rfl⟩
    · have f13 := h10
      try simp only [decide_eq_true_eq, decide_eq_false_iff_not, Bool.not_eq_true', Bool.not_eq_false', Int.not_lt, Int.not_le] at f13
      refine WR.off (Gf rfl rfl rfl h10) rfl rfl ?_
      refine WR.off (Gf rfl rfl rfl h10) rfl rfl ?_
      refine WR.off (Gf rfl rfl rfl h10) rfl rfl ?_
      refine WR.off (Gf rfl rfl rfl h10) rfl rfl ?_
      refine WR.off (Gf rfl rfl rfl h10) rfl rfl ?_
      refine WR.val (Gt rfl rfl rfl h6) rfl rfl (.pick_f rfl rfl h10 rfl) ?_
      refine WR.val (G0 rfl) rfl rfl (.pick_f rfl rfl h6 rfl) ?_
      refine WR.val (G0 rfl) rfl rfl (.assign rfl rfl) ?_
      refine WR.nil ?_
      exact WA.ret1 rfl rfl (List.nil_sublist _) ⟨by congr 1; rw [Bool.eq_iff_iff]; simp_all [dlt] <;> omega, rfl⟩

set_option maxRecDepth 20000 in
/-- redpencil/redpencilref14.IsDot -/
theorem jisdotF (d : Dot) (w : World) : Ct Tryz.prog 112 #[dv d] [] w (fun u hs => u = .bool (dvalid d) ∧ hs = []) := by
  refine Ct.intro Tryz.func112 rfl Tryz.ntmps112 rfl ?_
  refine WA.seq ?_
  refine WA.region ?_
  refine WR.dw (G0 rfl) rfl rfl (.box (vs := [_, _]) rfl rfl rfl) ?_
  rintro _ _ ⟨b2, rfl, rfl⟩
  refine WR.val (G0 rfl) rfl rfl (.assign rfl rfl) ?_
  refine WR.nil ?_
  refine WA.seq ?_
  refine WA.region ?_
  refine WR.val (G0 rfl) rfl rfl (.fa rfl FA_39_0 rfl) ?_
  refine WR.val (G0 rfl) rfl rfl (.load1 rfl NA_3 rfl (fun _ hw => hw.rd_blk (k := 1) 0 rfl rfl)) ?_
  refine WR.val (G0 rfl) rfl rfl (.geq rfl rfl rfl) ?_
  refine WR.val (G0 rfl) rfl rfl (.move rfl rfl) ?_
  refine WR.split (d := 6) rfl (fun h4 => ?_) (fun h4 => ?_)
  · have f5 := h4
    try simp only [decide_eq_true_eq, decide_eq_false_iff_not, Bool.not_eq_true', Bool.not_eq_false', Int.not_lt, Int.not_le] at f5
    refine WR.val (Gt rfl rfl rfl h4) rfl rfl (.fa rfl FA_39_0 rfl) ?_
    refine WR.val (Gt rfl rfl rfl h4) rfl rfl (.load1 rfl NA_3 rfl (fun _ hw => hw.rd_blk (k := 1) 0 rfl rfl)) ?_
    refine WR.val (Gt rfl rfl rfl h4) rfl rfl (.leq rfl rfl rfl) ?_
    refine WR.val (G0 rfl) rfl rfl (.pick_t rfl rfl h4 rfl) ?_
    refine WR.val (G0 rfl) rfl rfl (.move rfl rfl) ?_
    refine WR.split (d := 11) rfl (fun h7 => ?_) (fun h7 => ?_)
    · have f8 := h7
      try simp only [decide_eq_true_eq, decide_eq_false_iff_not, Bool.not_eq_true', Bool.not_eq_false', Int.not_lt, Int.not_le] at f8
      refine WR.val (Gt rfl rfl rfl h7) rfl rfl (.fa rfl FA_39_1 rfl) ?_
      refine WR.val (Gt rfl rfl rfl h7) rfl rfl (.load1 rfl NA_3 rfl (fun _ hw => hw.rd_blk (k := 1) 0 rfl rfl)) ?_
      refine WR.val (Gt rfl rfl rfl h7) rfl rfl (.geq rfl rfl rfl) ?_
      refine WR.val (G0 rfl) rfl rfl (.pick_t rfl rfl h7 rfl) ?_
      refine WR.val (G0 rfl) rfl rfl (.move rfl rfl) ?_
      refine WR.split (d := 16) rfl (fun h10 => ?_) (fun h10 => ?_)
      · have f11 := h10
        try simp only [decide_eq_true_eq, decide_eq_false_iff_not, Bool.not_eq_true', Bool.not_eq_false', Int.not_lt, Int.not_le] at f11
        refine WR.val (Gt rfl rfl rfl h10) rfl rfl (.fa rfl FA_39_1 rfl) ?_
        refine WR.val (Gt rfl rfl rfl h10) rfl rfl (.load1 rfl NA_3 rfl (fun _ hw => hw.rd_blk (k := 1) 0 rfl rfl)) ?_
        refine WR.val (Gt rfl rfl rfl h10) rfl rfl (.leq rfl rfl rfl) ?_
        refine WR.val (G0 rfl) rfl rfl (.pick_t rfl rfl h10 rfl) ?_
        refine WR.val (G0 rfl) rfl rfl (.assign rfl rfl) ?_
        refine WR.nil ?_
        exact WA.ret1 rfl rfl (List.nil_sublist _) ⟨by congr 1; rw [Bool.eq_iff_iff]; simp only [dvalid, decide_eq_true_eq]; first | omega | (constructor <;> intro hh <;> first | omega | trivial | cases hh), rfl⟩
      · have f13 := h10
        try simp only [decide_eq_true_eq, decide_eq_false_iff_not, Bool.not_eq_true', Bool.not_eq_false', Int.not_lt, Int.not_le] at f13
        refine WR.off (Gf rfl rfl rfl h10) rfl rfl ?_
        refine WR.off (Gf rfl rfl rfl h10) rfl rfl ?_
        refine WR.off (Gf rfl rfl rfl h10) rfl rfl ?_
        refine WR.val (G0 rfl) rfl rfl (.pick_f rfl rfl h10 rfl) ?_
        refine WR.val (G0 rfl) rfl rfl (.assign rfl rfl) ?_
        refine WR.nil ?_
        exact WA.ret1 rfl rfl (List.nil_sublist _) ⟨by congr 1; rw [Bool.eq_iff_iff]; simp only [dvalid, decide_eq_true_eq]; first | omega | (constructor <;> intro hh <;> first | omega | trivial | cases hh), rfl⟩
    · have f14 := h7
      try simp only [decide_eq_true_eq, decide_eq_false_iff_not, Bool.not_eq_true', Bool.not_eq_false', Int.not_lt, Int.not_le] at f14
      refine WR.off (Gf rfl rfl rfl h7) rfl rfl ?_
      refine WR.off (Gf rfl rfl rfl h7) rfl rfl ?_
      refine WR.off (Gf rfl rfl rfl h7) rfl rfl ?_
      refine WR.val (G0 rfl) rfl rfl (.pick_f rfl rfl h7 rfl) ?_
      refine WR.val (G0 rfl) rfl rfl (.move rfl rfl) ?_
      refine WR.off (Gf rfl rfl rfl rfl) rfl rfl ?_
      refine WR.off (Gf rfl rfl rfl rfl) rfl rfl ?_
      refine WR.off (Gf rfl rfl rfl rfl) rfl rfl ?_
      refine WR.val (G0 rfl) rfl rfl (.pick_f rfl rfl rfl rfl) ?_
      refine WR.val (G0 rfl) rfl rfl (.assign rfl rfl) ?_
      refine WR.nil ?_
      exact WA.ret1 rfl rfl (List.nil_sublist _) ⟨by congr 1; rw [Bool.eq_iff_iff]; simp only [dvalid, decide_eq_true_eq]; first | omega | (constructor <;> intro hh <;> first | omega | trivial | cases hh), rfl⟩
  · have f15 := h4
    try simp only [decide_eq_true_eq, decide_eq_false_iff_not, Bool.not_eq_true', Bool.not_eq_false', Int.not_lt, Int.not_le] at f15
    refine WR.off (Gf rfl rfl rfl h4) rfl rfl ?_
    refine WR.off (Gf rfl rfl rfl h4) rfl rfl ?_
    refine WR.off (Gf rfl rfl rfl h4) rfl rfl ?_
    refine WR.val (G0 rfl) rfl rfl (.pick_f rfl rfl h4 rfl) ?_
    refine WR.val (G0 rfl) rfl rfl (.move rfl rfl) ?_
    refine WR.off (Gf rfl rfl rfl rfl) rfl rfl ?_
    refine WR.off (Gf rfl rfl rfl rfl) rfl rfl ?_
    refine WR.off (Gf rfl rfl rfl rfl) rfl rfl ?_
    refine WR.val (G0 rfl) rfl rfl (.pick_f rfl rfl rfl rfl) ?_
    refine WR.val (G0 rfl) rfl rfl (.move rfl rfl) ?_
    refine WR.off (Gf rfl rfl rfl rfl) rfl rfl ?_
    refine WR.off (Gf rfl rfl rfl rfl) rfl rfl ?_
    refine WR.off (Gf rfl rfl rfl rfl) rfl rfl ?_
    refine WR.val (G0 rfl) rfl rfl (.pick_f rfl rfl rfl rfl) ?_
    refine WR.val (G0 rfl) rfl rfl (.assign rfl rfl) ?_
    refine WR.nil ?_
    exact WA.ret1 rfl rfl (List.nil_sublist _) ⟨by congr 1; rw [Bool.eq_iff_iff]; simp only [dvalid, decide_eq_true_eq]; first | omega | (constructor <;> intro hh <;> first | omega | trivial | cases hh), rfl⟩

set_option maxRecDepth 20000 in
/-- redpencil/redpencilref14.IsRune -/
theorem jisruneF (x : Int) (w : World) : Ct Tryz.prog 59 #[.int .i32 x] [] w (fun u hs => u = .bool (rvalid x) ∧ hs = []) := by
  refine Ct.intro Tryz.func59 rfl Tryz.ntmps59 rfl ?_
  refine WA.seq ?_
  refine WA.region ?_
  refine WR.val (G0 rfl) rfl rfl (.assign rfl rfl) ?_
  refine WR.nil ?_
  refine WA.seq ?_
  refine WA.region ?_
  refine WR.val (G0 rfl) rfl rfl (.move rfl rfl) ?_
  refine WR.val (G0 rfl) rfl rfl (.geq rfl rfl rfl) ?_
  refine WR.val (G0 rfl) rfl rfl (.move rfl rfl) ?_
  refine WR.split (d := 5) rfl (fun h2 => ?_) (fun h2 => ?_)
  · have f3 := h2
    try simp only [decide_eq_true_eq, decide_eq_false_iff_not, Bool.not_eq_true', Bool.not_eq_false', Int.not_lt, Int.not_le] at f3
    refine WR.val (Gt rfl rfl rfl h2) rfl rfl (.move rfl rfl) ?_
    refine WR.val (Gt rfl rfl rfl h2) rfl rfl (.leq rfl rfl rfl) ?_
    refine WR.val (G0 rfl) rfl rfl (.pick_t rfl rfl h2 rfl) ?_
    refine WR.val (G0 rfl) rfl rfl (.move rfl rfl) ?_
    refine WR.split (d := 9) rfl (fun h5 => ?_) (fun h5 => ?_)
    · have f6 := h5
      try simp only [decide_eq_true_eq, decide_eq_false_iff_not, Bool.not_eq_true', Bool.not_eq_false', Int.not_lt, Int.not_le] at f6
      refine WR.val (Gt rfl rfl rfl h5) rfl rfl (.move rfl rfl) ?_
      refine WR.val (Gt rfl rfl rfl h5) rfl rfl (.lss rfl rfl rfl) ?_
      refine WR.val (Gt rfl rfl rfl h5) rfl rfl (.move rfl rfl) ?_
      refine WR.split (d := 12) rfl (fun h8 => ?_) (fun h8 => ?_)
      · have f9 := h8
        try simp only [decide_eq_true_eq, decide_eq_false_iff_not, Bool.not_eq_true', Bool.not_eq_false', Int.not_lt, Int.not_le] at f9
        refine WR.off (Gf rfl rfl rfl h8) rfl rfl ?_
        refine WR.off (Gf rfl rfl rfl h8) rfl rfl ?_
        refine WR.val (Gt rfl rfl rfl h5) rfl rfl (.pick_t rfl rfl h8 rfl) ?_
        refine WR.val (G0 rfl) rfl rfl (.pick_t rfl rfl h5 rfl) ?_
        refine WR.val (G0 rfl) rfl rfl (.assign rfl rfl) ?_
        refine WR.nil ?_
        exact WA.ret1 rfl rfl (List.nil_sublist _) ⟨by congr 1; rw [Bool.eq_iff_iff]; simp only [rvalid, decide_eq_true_eq]; first | omega | (constructor <;> intro hh <;> first | omega | trivial | cases hh), rfl⟩
      · have f10 := h8
        try simp only [decide_eq_true_eq, decide_eq_false_iff_not, Bool.not_eq_true', Bool.not_eq_false', Int.not_lt, Int.not_le] at f10
        refine WR.val (Gt rfl rfl rfl h8) rfl rfl (.move rfl rfl) ?_
        refine WR.val (Gt rfl rfl rfl h8) rfl rfl (.gtr rfl rfl rfl) ?_
        refine WR.val (Gt rfl rfl rfl h5) rfl rfl (.pick_f rfl rfl h8 rfl) ?_
        refine WR.val (G0 rfl) rfl rfl (.pick_t rfl rfl h5 rfl) ?_
        refine WR.val (G0 rfl) rfl rfl (.assign rfl rfl) ?_
        refine WR.nil ?_
        exact WA.ret1 rfl rfl (List.nil_sublist _) ⟨by congr 1; rw [Bool.eq_iff_iff]; simp only [rvalid, decide_eq_true_eq]; first | omega | (constructor <;> intro hh <;> first | omega | trivial | cases hh), rfl⟩
    · have f12 := h5
      try simp only [decide_eq_true_eq, decide_eq_false_iff_not, Bool.not_eq_true', Bool.not_eq_false', Int.not_lt, Int.not_le] at f12
      refine WR.off (Gf rfl rfl rfl h5) rfl rfl ?_
      refine WR.off (Gf rfl rfl rfl h5) rfl rfl ?_
      refine WR.off (Gf rfl rfl rfl h5) rfl rfl ?_
      refine WR.off (Gu rfl rfl rfl) rfl rfl ?_
      refine WR.off (Gu rfl rfl rfl) rfl rfl ?_
      refine WR.off (Gf rfl rfl rfl h5) rfl rfl ?_
      refine WR.val (G0 rfl) rfl rfl (.pick_f rfl rfl h5 rfl) ?_
      refine WR.val (G0 rfl) rfl rfl (.assign rfl rfl) ?_
      refine WR.nil ?_
      exact WA.ret1 rfl rfl (List.nil_sublist _) ⟨by congr 1; rw [Bool.eq_iff_iff]; simp only [rvalid, decide_eq_true_eq]; first | omega | (constructor <;> intro hh <;> first | omega | trivial | cases hh), rfl⟩
  · have f13 := h2
    try simp only [decide_eq_true_eq, decide_eq_false_iff_not, Bool.not_eq_true', Bool.not_eq_false', Int.not_lt, Int.not_le] at f13
    refine WR.off (Gf rfl rfl rfl h2) rfl rfl ?_
    refine WR.off (Gf rfl rfl rfl h2) rfl rfl ?_
    refine WR.val (G0 rfl) rfl rfl (.pick_f rfl rfl h2 rfl) ?_
    refine WR.val (G0 rfl) rfl rfl (.move rfl rfl) ?_
    refine WR.off (Gf rfl rfl rfl rfl) rfl rfl ?_
    refine WR.off (Gf rfl rfl rfl rfl) rfl rfl ?_
    refine WR.off (Gf rfl rfl rfl rfl) rfl rfl ?_
    refine WR.off (Gu rfl rfl rfl) rfl rfl ?_
    refine WR.off (Gu rfl rfl rfl) rfl rfl ?_
    refine WR.off (Gf rfl rfl rfl rfl) rfl rfl ?_
    refine WR.val (G0 rfl) rfl rfl (.pick_f rfl rfl rfl rfl) ?_
    refine WR.val (G0 rfl) rfl rfl (.assign rfl rfl) ?_
    refine WR.nil ?_
    exact WA.ret1 rfl rfl (List.nil_sublist _) ⟨by congr 1; rw [Bool.eq_iff_iff]; simp only [rvalid, decide_eq_true_eq]; first | omega | (constructor <;> intro hh <;> first | omega | trivial | cases hh), rfl⟩

set_option maxRecDepth 20000 in
/-- redpencil/redpencilref14.IsNode -/
theorem jisnodeF (n : Nd) (w : World) : Ct Tryz.prog 128 #[nv n] [] w (fun u hs => u = .bool (nvalid n) ∧ hs = []) := by
  refine Ct.intro Tryz.func128 rfl Tryz.ntmps128 rfl ?_
  refine WA.seq ?_
  refine WA.region ?_
  refine WR.dw (G0 rfl) rfl rfl (.box (vs := [_, _, _, _, _, _]) rfl rfl rfl) ?_
  rintro _ _ ⟨b2, rfl, rfl⟩
  refine WR.val (G0 rfl) rfl rfl (.assign rfl rfl) ?_
  refine WR.nil ?_
  refine WA.seq ?_
  refine WA.region ?_
  refine WR.val (G0 rfl) rfl rfl (.fa rfl FA_42_0 rfl) ?_
  refine WR.val (G0 rfl) rfl rfl (.loadK (vs := [_, _]) rfl AG_39 rfl (fun _ hw => hw.rd_blk (k := 2) 0 rfl rfl)) ?_
  refine WR.dw (G0 rfl) rfl rfl (.callv (caps := []) rfl rfl rfl EN_112 (fun w hw => jisdotF _ w)) ?_
  rintro _ _ ⟨rfl, rfl⟩
  refine WR.val (G0 rfl) rfl rfl (.move rfl rfl) ?_
  refine WR.split (d := 6) rfl (fun h4 => ?_) (fun h4 => ?_)
  · have f5 := h4
    try simp only [decide_eq_true_eq, decide_eq_false_iff_not, Bool.not_eq_true', Bool.not_eq_false', Int.not_lt, Int.not_le] at f5
    refine WR.val (Gt rfl rfl rfl h4) rfl rfl (.fa rfl FA_42_1 rfl) ?_
    refine WR.val (Gt rfl rfl rfl h4) rfl rfl (.loadK (vs := [_, _]) rfl AG_39 rfl (fun _ hw => hw.rd_blk (k := 2) 0 rfl rfl)) ?_
    refine WR.val (Gt rfl rfl rfl h4) rfl rfl (.build (vs := [_, _]) [.int .i64 0, .int .i64 0] [0, 1] rfl rfl rfl (fun _ => by kernel_rfl)) ?_
    refine WR.val (Gt rfl rfl rfl h4) rfl rfl (.bin rfl rfl rfl EQ_eql_39) ?_
    refine WR.val (Gt rfl rfl rfl h4) rfl rfl (.move rfl rfl) ?_
    refine WR.split (d := 11) rfl (fun h7 => ?_) (fun h7 => ?_)
    · have f8 := h7
      try simp only [decide_eq_true_eq, decide_eq_false_iff_not, Bool.not_eq_true', Bool.not_eq_false', Int.not_lt, Int.not_le] at f8
      refine WR.off (Gf rfl rfl rfl h7) rfl rfl ?_
      refine WR.off (Gf rfl rfl rfl h7) rfl rfl ?_
      refine WR.off (Gf rfl rfl rfl h7) rfl rfl ?_
      refine WR.val (Gt rfl rfl rfl h4) rfl rfl (.pick_t rfl rfl h7 rfl) ?_
      refine WR.val (G0 rfl) rfl rfl (.pick_t rfl rfl h4 rfl) ?_
      refine WR.val (G0 rfl) rfl rfl (.move rfl rfl) ?_
      refine WR.val (Gt rfl rfl rfl rfl) rfl rfl (.fa rfl FA_42_1 rfl) ?_
      refine WR.val (Gt rfl rfl rfl rfl) rfl rfl (.loadK (vs := [_, _]) rfl AG_39 rfl (fun _ hw => hw.rd_blk (k := 2) 0 rfl rfl)) ?_
      refine WR.val (Gt rfl rfl rfl rfl) rfl rfl (.fa rfl FA_42_0 rfl) ?_
      refine WR.val (Gt rfl rfl rfl rfl) rfl rfl (.loadK (vs := [_, _]) rfl AG_39 rfl (fun _ hw => hw.rd_blk (k := 2) 0 rfl rfl)) ?_
      refine WR.val (Gt rfl rfl rfl rfl) rfl rfl (.bin rfl rfl rfl EQT_neq_39) ?_
      refine WR.val (G0 rfl) rfl rfl (.pick_t rfl rfl rfl rfl) ?_
      refine WR.val (G0 rfl) rfl rfl (.move rfl rfl) ?_
      refine WR.split (d := 24) rfl (fun h10 => ?_) (fun h10 => ?_)
      · have f11 := h10
        try simp only [decide_eq_true_eq, decide_eq_false_iff_not, Bool.not_eq_true', Bool.not_eq_false', Int.not_lt, Int.not_le] at f11
        refine WR.val (Gt rfl rfl rfl h10) rfl rfl (.fa rfl FA_42_2 rfl) ?_
        refine WR.val (Gt rfl rfl rfl h10) rfl rfl (.load1 rfl NA_3 rfl (fun _ hw => hw.rd_blk (k := 1) 0 rfl rfl)) ?_
        refine WR.val (Gt rfl rfl rfl h10) rfl rfl (.geq rfl rfl rfl) ?_
        refine WR.val (G0 rfl) rfl rfl (.pick_t rfl rfl h10 rfl) ?_
        refine WR.val (G0 rfl) rfl rfl (.move rfl rfl) ?_
        refine WR.split (d := 29) rfl (fun h13 => ?_) (fun h13 => ?_)
        · have f14 := h13
          try simp only [decide_eq_true_eq, decide_eq_false_iff_not, Bool.not_eq_true', Bool.not_eq_false', Int.not_lt, Int.not_le] at f14
          refine WR.val (Gt rfl rfl rfl h13) rfl rfl (.fa rfl FA_42_2 rfl) ?_
          refine WR.val (Gt rfl rfl rfl h13) rfl rfl (.load1 rfl NA_3 rfl (fun _ hw => hw.rd_blk (k := 1) 0 rfl rfl)) ?_
          refine WR.val (Gt rfl rfl rfl h13) rfl rfl (.leq rfl rfl rfl) ?_
          refine WR.val (G0 rfl) rfl rfl (.pick_t rfl rfl h13 rfl) ?_
          refine WR.val (G0 rfl) rfl rfl (.move rfl rfl) ?_
          refine WR.split (d := 34) rfl (fun h16 => ?_) (fun h16 => ?_)
          · have f17 := h16
            try simp only [decide_eq_true_eq, decide_eq_false_iff_not, Bool.not_eq_true', Bool.not_eq_false', Int.not_lt, Int.not_le] at f17
            refine WR.val (Gt rfl rfl rfl h16) rfl rfl (.fa rfl FA_42_3 rfl) ?_
            refine WR.val (Gt rfl rfl rfl h16) rfl rfl (.load1 rfl NA_21 rfl (fun _ hw => hw.rd_blk (k := 1) 0 rfl rfl)) ?_
            refine WR.val (Gt rfl rfl rfl h16) rfl rfl (.eql rfl rfl rfl) ?_
            refine WR.val (Gt rfl rfl rfl h16) rfl rfl (.move rfl rfl) ?_
            refine WR.split (d := 38) rfl (fun h19 => ?_) (fun h19 => ?_)
            · have f20 := h19
              try simp only [decide_eq_true_eq, decide_eq_false_iff_not, Bool.not_eq_true', Bool.not_eq_false', Int.not_lt, Int.not_le] at f20
              refine WR.off (Gf rfl rfl rfl h19) rfl rfl ?_
              refine WR.off (Gf rfl rfl rfl h19) rfl rfl ?_
              refine WR.off (Gf rfl rfl rfl h19) rfl rfl ?_
              refine WR.val (Gt rfl rfl rfl h16) rfl rfl (.pick_t rfl rfl h19 rfl) ?_
              refine WR.val (G0 rfl) rfl rfl (.pick_t rfl rfl h16 rfl) ?_
              refine WR.val (G0 rfl) rfl rfl (.assign rfl rfl) ?_
              refine WR.nil ?_
              exact WA.ret1 rfl rfl (List.nil_sublist _) ⟨by congr 1; rw [Bool.eq_iff_iff]; simp_all [nvalid, droot, Dot.eq_iff]; try (intros; omega), rfl⟩
            · have f21 := h19
              try simp only [decide_eq_true_eq, decide_eq_false_iff_not, Bool.not_eq_true', Bool.not_eq_false', Int.not_lt, Int.not_le] at f21
              refine WR.val (Gt rfl rfl rfl h19) rfl rfl (.fa rfl FA_42_3 rfl) ?_
              refine WR.val (Gt rfl rfl rfl h19) rfl rfl (.load1 rfl NA_21 rfl (fun _ hw => hw.rd_blk (k := 1) 0 rfl rfl)) ?_
              refine WR.dw (Gt rfl rfl rfl h19) rfl rfl (.callv (caps := []) rfl rfl rfl EN_59 (fun w hw => jisruneF _ w)) ?_
              rintro _ _ ⟨rfl, rfl⟩
              refine WR.val (Gt rfl rfl rfl h16) rfl rfl (.pick_f rfl rfl h19 rfl) ?_
              refine WR.val (G0 rfl) rfl rfl (.pick_t rfl rfl h16 rfl) ?_
              refine WR.val (G0 rfl) rfl rfl (.assign rfl rfl) ?_
              refine WR.nil ?_
              exact WA.ret1 rfl rfl (List.nil_sublist _) ⟨by congr 1; rw [Bool.eq_iff_iff]; simp_all [nvalid, droot, Dot.eq_iff]; try (intros; omega), rfl⟩
          · have f23 := h16
            try simp only [decide_eq_true_eq, decide_eq_false_iff_not, Bool.not_eq_true', Bool.not_eq_false', Int.not_lt, Int.not_le] at f23
            refine WR.off (Gf rfl rfl rfl h16) rfl rfl ?_
            refine WR.off (Gf rfl rfl rfl h16) rfl rfl ?_
            refine WR.off (Gf rfl rfl rfl h16) rfl rfl ?_
            refine WR.off (Gf rfl rfl rfl h16) rfl rfl ?_
            refine WR.off (Gu rfl rfl rfl) rfl rfl ?_
            refine WR.off (Gu rfl rfl rfl) rfl rfl ?_
            refine WR.off (Gu rfl rfl rfl) rfl rfl ?_
            refine WR.off (Gf rfl rfl rfl h16) rfl rfl ?_
            refine WR.val (G0 rfl) rfl rfl (.pick_f rfl rfl h16 rfl) ?_
            refine WR.val (G0 rfl) rfl rfl (.assign rfl rfl) ?_
            refine WR.nil ?_
            exact WA.ret1 rfl rfl (List.nil_sublist _) ⟨by congr 1; rw [Bool.eq_iff_iff]; simp_all [nvalid, droot, Dot.eq_iff]; try (intros; omega), rfl⟩
        · have f24 := h13
          try simp only [decide_eq_true_eq, decide_eq_false_iff_not, Bool.not_eq_true', Bool.not_eq_false', Int.not_lt, Int.not_le] at f24
          refine WR.off (Gf rfl rfl rfl h13) rfl rfl ?_
          refine WR.off (Gf rfl rfl rfl h13) rfl rfl ?_
          refine WR.off (Gf rfl rfl rfl h13) rfl rfl ?_
          refine WR.val (G0 rfl) rfl rfl (.pick_f rfl rfl h13 rfl) ?_
          refine WR.val (G0 rfl) rfl rfl (.move rfl rfl) ?_
          refine WR.off (Gf rfl rfl rfl rfl) rfl rfl ?_
          refine WR.off (Gf rfl rfl rfl rfl) rfl rfl ?_
          refine WR.off (Gf rfl rfl rfl rfl) rfl rfl ?_
          refine WR.off (Gf rfl rfl rfl rfl) rfl rfl ?_
          refine WR.off (Gu rfl rfl rfl) rfl rfl ?_
          refine WR.off (Gu rfl rfl rfl) rfl rfl ?_
          refine WR.off (Gu rfl rfl rfl) rfl rfl ?_
          refine WR.off (Gf rfl rfl rfl rfl) rfl rfl ?_
          refine WR.val (G0 rfl) rfl rfl (.pick_f rfl rfl rfl rfl) ?_
          refine WR.val (G0 rfl) rfl rfl (.assign rfl rfl) ?_
          refine WR.nil ?_
          exact WA.ret1 rfl rfl (List.nil_sublist _) ⟨by congr 1; rw [Bool.eq_iff_iff]; simp_all [nvalid, droot, Dot.eq_iff]; try (intros; omega), rfl⟩
      · have f25 := h10
        try simp only [decide_eq_true_eq, decide_eq_false_iff_not, Bool.not_eq_true', Bool.not_eq_false', Int.not_lt, Int.not_le] at f25
        refine WR.off (Gf rfl rfl rfl h10) rfl rfl ?_
        refine WR.off (Gf rfl rfl rfl h10) rfl rfl ?_
        refine WR.off (Gf rfl rfl rfl h10) rfl rfl ?_
        refine WR.val (G0 rfl) rfl rfl (.pick_f rfl rfl h10 rfl) ?_
        refine WR.val (G0 rfl) rfl rfl (.move rfl rfl) ?_
        refine WR.off (Gf rfl rfl rfl rfl) rfl rfl ?_
        refine WR.off (Gf rfl rfl rfl rfl) rfl rfl ?_
        refine WR.off (Gf rfl rfl rfl rfl) rfl rfl ?_
        refine WR.val (G0 rfl) rfl rfl (.pick_f rfl rfl rfl rfl) ?_
        refine WR.val (G0 rfl) rfl rfl (.move rfl rfl) ?_
        refine WR.off (Gf rfl rfl rfl rfl) rfl rfl ?_
        refine WR.off (Gf rfl rfl rfl rfl) rfl rfl ?_
        refine WR.off (Gf rfl rfl rfl rfl) rfl rfl ?_
        refine WR.off (Gf rfl rfl rfl rfl) rfl rfl ?_
        refine WR.off (Gu rfl rfl rfl) rfl rfl ?_
        refine WR.off (Gu rfl rfl rfl) rfl rfl ?_
        refine WR.off (Gu rfl rfl rfl) rfl rfl ?_
        refine WR.off (Gf rfl rfl rfl rfl) rfl rfl ?_
        refine WR.val (G0 rfl) rfl rfl (.pick_f rfl rfl rfl rfl) ?_
        refine WR.val (G0 rfl) rfl rfl (.assign rfl rfl) ?_
        refine WR.nil ?_
        exact WA.ret1 rfl rfl (List.nil_sublist _) ⟨by congr 1; rw [Bool.eq_iff_iff]; simp_all [nvalid, droot, Dot.eq_iff]; try (intros; omega), rfl⟩
    · have f26 := h7
      try simp only [decide_eq_true_eq, decide_eq_false_iff_not, Bool.not_eq_true', Bool.not_eq_false', Int.not_lt, Int.not_le] at f26
      refine WR.val (Gt rfl rfl rfl h7) rfl rfl (.fa rfl FA_42_1 rfl) ?_
      refine WR.val (Gt rfl rfl rfl h7) rfl rfl (.loadK (vs := [_, _]) rfl AG_39 rfl (fun _ hw => hw.rd_blk (k := 2) 0 rfl rfl)) ?_
      refine WR.dw (Gt rfl rfl rfl h7) rfl rfl (.callv (caps := []) rfl rfl rfl EN_112 (fun w hw => jisdotF _ w)) ?_
      rintro _ _ ⟨rfl, rfl⟩
      refine WR.val (Gt rfl rfl rfl h4) rfl rfl (.pick_f rfl rfl h7 rfl) ?_
      refine WR.val (G0 rfl) rfl rfl (.pick_t rfl rfl h4 rfl) ?_
      refine WR.val (G0 rfl) rfl rfl (.move rfl rfl) ?_
      refine WR.split (d := 17) rfl (fun h28 => ?_) (fun h28 => ?_)
      · have f29 := h28
        try simp only [decide_eq_true_eq, decide_eq_false_iff_not, Bool.not_eq_true', Bool.not_eq_false', Int.not_lt, Int.not_le] at f29
        refine WR.val (Gt rfl rfl rfl h28) rfl rfl (.fa rfl FA_42_1 rfl) ?_
        refine WR.val (Gt rfl rfl rfl h28) rfl rfl (.loadK (vs := [_, _]) rfl AG_39 rfl (fun _ hw => hw.rd_blk (k := 2) 0 rfl rfl)) ?_
        refine WR.val (Gt rfl rfl rfl h28) rfl rfl (.fa rfl FA_42_0 rfl) ?_
        refine WR.val (Gt rfl rfl rfl h28) rfl rfl (.loadK (vs := [_, _]) rfl AG_39 rfl (fun _ hw => hw.rd_blk (k := 2) 0 rfl rfl)) ?_
        refine WR.val (Gt rfl rfl rfl h28) rfl rfl (.bin rfl rfl rfl EQT_neq_39) ?_
        refine WR.val (G0 rfl) rfl rfl (.pick_t rfl rfl h28 rfl) ?_
        refine WR.val (G0 rfl) rfl rfl (.move rfl rfl) ?_
        refine WR.split (d := 24) rfl (fun h31 => ?_) (fun h31 => ?_)
        · have f32 := h31
          try simp only [decide_eq_true_eq, decide_eq_false_iff_not, Bool.not_eq_true', Bool.not_eq_false', Int.not_lt, Int.not_le] at f32
          refine WR.val (Gt rfl rfl rfl h31) rfl rfl (.fa rfl FA_42_2 rfl) ?_
          refine WR.val (Gt rfl rfl rfl h31) rfl rfl (.load1 rfl NA_3 rfl (fun _ hw => hw.rd_blk (k := 1) 0 rfl rfl)) ?_
          refine WR.val (Gt rfl rfl rfl h31) rfl rfl (.geq rfl rfl rfl) ?_
          refine WR.val (G0 rfl) rfl rfl (.pick_t rfl rfl h31 rfl) ?_
          refine WR.val (G0 rfl) rfl rfl (.move rfl rfl) ?_
          refine WR.split (d := 29) rfl (fun h34 => ?_) (fun h34 => ?_)
          · have f35 := h34
            try simp only [decide_eq_true_eq, decide_eq_false_iff_not, Bool.not_eq_true', Bool.not_eq_false', Int.not_lt, Int.not_le] at f35
            refine WR.val (Gt rfl rfl rfl h34) rfl rfl (.fa rfl FA_42_2 rfl) ?_
            refine WR.val (Gt rfl rfl rfl h34) rfl rfl (.load1 rfl NA_3 rfl (fun _ hw => hw.rd_blk (k := 1) 0 rfl rfl)) ?_
            refine WR.val (Gt rfl rfl rfl h34) rfl rfl (.leq rfl rfl rfl) ?_
            refine WR.val (G0 rfl) rfl rfl (.pick_t rfl rfl h34 rfl) ?_
            refine WR.val (G0 rfl) rfl rfl (.move rfl rfl) ?_
            refine WR.split (d := 34) rfl (fun h37 => ?_) (fun h37 => ?_)
            · have f38 := h37
              try simp only [decide_eq_true_eq, decide_eq_false_iff_not, Bool.not_eq_true', Bool.not_eq_false', Int.not_lt, Int.not_le] at f38
              refine WR.val (Gt rfl rfl rfl h37) rfl rfl (.fa rfl FA_42_3 rfl) ?_
              refine WR.val (Gt rfl rfl rfl h37) rfl rfl (.load1 rfl NA_21 rfl (fun _ hw => hw.rd_blk (k := 1) 0 rfl rfl)) ?_
              refine WR.val (Gt rfl rfl rfl h37) rfl rfl (.eql rfl rfl rfl) ?_
              refine WR.val (Gt rfl rfl rfl h37) rfl rfl (.move rfl rfl) ?_
              refine WR.split (d := 38) rfl (fun h40 => ?_) (fun h40 => ?_)
              · have f41 := h40
                try simp only [decide_eq_true_eq, decide_eq_false_iff_not, Bool.not_eq_true', Bool.not_eq_false', Int.not_lt, Int.not_le] at f41
                refine WR.off (Gf rfl rfl rfl h40) rfl rfl ?_
                refine WR.off (Gf rfl rfl rfl h40) rfl rfl ?_
                refine WR.off (Gf rfl rfl rfl h40) rfl rfl ?_
                refine WR.val (Gt rfl rfl rfl h37) rfl rfl (.pick_t rfl rfl h40 rfl) ?_
                refine WR.val (G0 rfl) rfl rfl (.pick_t rfl rfl h37 rfl) ?_
                refine WR.val (G0 rfl) rfl rfl (.assign rfl rfl) ?_
                refine WR.nil ?_
                exact WA.ret1 rfl rfl (List.nil_sublist _) ⟨by congr 1; rw [Bool.eq_iff_iff]; simp_all [nvalid, droot, Dot.eq_iff]; try (intros; omega), rfl⟩
              · have f42 := h40
                try simp only [decide_eq_true_eq, decide_eq_false_iff_not, Bool.not_eq_true', Bool.not_eq_false', Int.not_lt, Int.not_le] at f42
                refine WR.val (Gt rfl rfl rfl h40) rfl rfl (.fa rfl FA_42_3 rfl) ?_
                refine WR.val (Gt rfl rfl rfl h40) rfl rfl (.load1 rfl NA_21 rfl (fun _ hw => hw.rd_blk (k := 1) 0 rfl rfl)) ?_
                refine WR.dw (Gt rfl rfl rfl h40) rfl rfl (.callv (caps := []) rfl rfl rfl EN_59 (fun w hw => jisruneF _ w)) ?_
                rintro _ _ ⟨rfl, rfl⟩
                refine WR.val (Gt rfl rfl rfl h37) rfl rfl (.pick_f rfl rfl h40 rfl) ?_
                refine WR.val (G0 rfl) rfl rfl (.pick_t rfl rfl h37 rfl) ?_
                refine WR.val (G0 rfl) rfl rfl (.assign rfl rfl) ?_
                refine WR.nil ?_
                exact WA.ret1 rfl rfl (List.nil_sublist _) ⟨by congr 1; rw [Bool.eq_iff_iff]; simp_all [nvalid, droot, Dot.eq_iff]; try (intros; omega), rfl⟩
            · have f44 := h37
              try simp only [decide_eq_true_eq, decide_eq_false_iff_not, Bool.not_eq_true', Bool.not_eq_false', Int.not_lt, Int.not_le] at f44
              refine WR.off (Gf rfl rfl rfl h37) rfl rfl ?_
              refine WR.off (Gf rfl rfl rfl h37) rfl rfl ?_
              refine WR.off (Gf rfl rfl rfl h37) rfl rfl ?_
              refine WR.off (Gf rfl rfl rfl h37) rfl rfl ?_
              refine WR.off (Gu rfl rfl rfl) rfl rfl ?_
              refine WR.off (Gu rfl rfl rfl) rfl rfl ?_
              refine WR.off (Gu rfl rfl rfl) rfl rfl ?_
              refine WR.off (Gf rfl rfl rfl h37) rfl rfl ?_
              refine WR.val (G0 rfl) rfl rfl (.pick_f rfl rfl h37 rfl) ?_
              refine WR.val (G0 rfl) rfl rfl (.assign rfl rfl) ?_
              refine WR.nil ?_
              exact WA.ret1 rfl rfl (List.nil_sublist _) ⟨by congr 1; rw [Bool.eq_iff_iff]; simp_all [nvalid, droot, Dot.eq_iff]; try (intros; omega), rfl⟩
          · have f45 := h34
            try simp only [decide_eq_true_eq, decide_eq_false_iff_not, Bool.not_eq_true', Bool.not_eq_false', Int.not_lt, Int.not_le] at f45
            refine WR.off (Gf rfl rfl rfl h34) rfl rfl ?_
            refine WR.off (Gf rfl rfl rfl h34) rfl rfl ?_
            refine WR.off (Gf rfl rfl rfl h34) rfl rfl ?_
            refine WR.val (G0 rfl) rfl rfl (.pick_f rfl rfl h34 rfl) ?_
            refine WR.val (G0 rfl) rfl rfl (.move rfl rfl) ?_
            refine WR.off (Gf rfl rfl rfl rfl) rfl rfl ?_
            refine WR.off (Gf rfl rfl rfl rfl) rfl rfl ?_
            refine WR.off (Gf rfl rfl rfl rfl) rfl rfl ?_
            refine WR.off (Gf rfl rfl rfl rfl) rfl rfl ?_
            refine WR.off (Gu rfl rfl rfl) rfl rfl ?_
            refine WR.off (Gu rfl rfl rfl) rfl rfl ?_
            refine WR.off (Gu rfl rfl rfl) rfl rfl ?_
            refine WR.off (Gf rfl rfl rfl rfl) rfl rfl ?_
            refine WR.val (G0 rfl) rfl rfl (.pick_f rfl rfl rfl rfl) ?_
            refine WR.val (G0 rfl) rfl rfl (.assign rfl rfl) ?_
            refine WR.nil ?_
            exact WA.ret1 rfl rfl (List.nil_sublist _) ⟨by congr 1; rw [Bool.eq_iff_iff]; simp_all [nvalid, droot, Dot.eq_iff]; try (intros; omega), rfl⟩
        · have f46 := h31
          try simp only [decide_eq_true_eq, decide_eq_false_iff_not, Bool.not_eq_true', Bool.not_eq_false', Int.not_lt, Int.not_le] at f46
          refine WR.off (Gf rfl rfl rfl h31) rfl rfl ?_
          refine WR.off (Gf rfl rfl rfl h31) rfl rfl ?_
          refine WR.off (Gf rfl rfl rfl h31) rfl rfl ?_
          refine WR.val (G0 rfl) rfl rfl (.pick_f rfl rfl h31 rfl) ?_
          refine WR.val (G0 rfl) rfl rfl (.move rfl rfl) ?_
          refine WR.off (Gf rfl rfl rfl rfl) rfl rfl ?_
          refine WR.off (Gf rfl rfl rfl rfl) rfl rfl ?_
          refine WR.off (Gf rfl rfl rfl rfl) rfl rfl ?_
          refine WR.val (G0 rfl) rfl rfl (.pick_f rfl rfl rfl rfl) ?_
          refine WR.val (G0 rfl) rfl rfl (.move rfl rfl) ?_
          refine WR.off (Gf rfl rfl rfl rfl) rfl rfl ?_
          refine WR.off (Gf rfl rfl rfl rfl) rfl rfl ?_
          refine WR.off (Gf rfl rfl rfl rfl) rfl rfl ?_
          refine WR.off (Gf rfl rfl rfl rfl) rfl rfl ?_
          refine WR.off (Gu rfl rfl rfl) rfl rfl ?_
          refine WR.off (Gu rfl rfl rfl) rfl rfl ?_
          refine WR.off (Gu rfl rfl rfl) rfl rfl ?_
          refine WR.off (Gf rfl rfl rfl rfl) rfl rfl ?_
          refine WR.val (G0 rfl) rfl rfl (.pick_f rfl rfl rfl rfl) ?_
          refine WR.val (G0 rfl) rfl rfl (.assign rfl rfl) ?_
          refine WR.nil ?_
          exact WA.ret1 rfl rfl (List.nil_sublist _) ⟨by congr 1; rw [Bool.eq_iff_iff]; simp_all [nvalid, droot, Dot.eq_iff]; try (intros; omega), rfl⟩
      · have f47 := h28
        try simp only [decide_eq_true_eq, decide_eq_false_iff_not, Bool.not_eq_true', Bool.not_eq_false', Int.not_lt, Int.not_le] at f47
        refine WR.off (Gf rfl rfl rfl h28) rfl rfl ?_
        refine WR.off (Gf rfl rfl rfl h28) rfl rfl ?_
        refine WR.off (Gf rfl rfl rfl h28) rfl rfl ?_
        refine WR.off (Gf rfl rfl rfl h28) rfl rfl ?_
        refine WR.off (Gf rfl rfl rfl h28) rfl rfl ?_
        refine WR.val (G0 rfl) rfl rfl (.pick_f rfl rfl h28 rfl) ?_
        refine WR.val (G0 rfl) rfl rfl (.move rfl rfl) ?_
        refine WR.off (Gf rfl rfl rfl rfl) rfl rfl ?_
        refine WR.off (Gf rfl rfl rfl rfl) rfl rfl ?_
        refine WR.off (Gf rfl rfl rfl rfl) rfl rfl ?_
        refine WR.val (G0 rfl) rfl rfl (.pick_f rfl rfl rfl rfl) ?_
        refine WR.val (G0 rfl) rfl rfl (.move rfl rfl) ?_
        refine WR.off (Gf rfl rfl rfl rfl) rfl rfl ?_
        refine WR.off (Gf rfl rfl rfl rfl) rfl rfl ?_
        refine WR.off (Gf rfl rfl rfl rfl) rfl rfl ?_
        refine WR.val (G0 rfl) rfl rfl (.pick_f rfl rfl rfl rfl) ?_
        refine WR.val (G0 rfl) rfl rfl (.move rfl rfl) ?_
        refine WR.off (Gf rfl rfl rfl rfl) rfl rfl ?_
        refine WR.off (Gf rfl rfl rfl rfl) rfl rfl ?_
        refine WR.off (Gf rfl rfl rfl rfl) rfl rfl ?_
        refine WR.off (Gf rfl rfl rfl rfl) rfl rfl ?_
        refine WR.off (Gu rfl rfl rfl) rfl rfl ?_
        refine WR.off (Gu rfl rfl rfl) rfl rfl ?_
        refine WR.off (Gu rfl rfl rfl) rfl rfl ?_
        refine WR.off (Gf rfl rfl rfl rfl) rfl rfl ?_
        refine WR.val (G0 rfl) rfl rfl (.pick_f rfl rfl rfl rfl) ?_
        refine WR.val (G0 rfl) rfl rfl (.assign rfl rfl) ?_
        refine WR.nil ?_
        exact WA.ret1 rfl rfl (List.nil_sublist _) ⟨by congr 1; rw [Bool.eq_iff_iff]; simp_all [nvalid, droot, Dot.eq_iff]; try (intros; omega), rfl⟩
  · have f48 := h4
    try simp only [decide_eq_true_eq, decide_eq_false_iff_not, Bool.not_eq_true', Bool.not_eq_false', Int.not_lt, Int.not_le] at f48
    refine WR.off (Gf rfl rfl rfl h4) rfl rfl ?_
    refine WR.off (Gf rfl rfl rfl h4) rfl rfl ?_
    refine WR.off (Gf rfl rfl rfl h4) rfl rfl ?_
    refine WR.off (Gf rfl rfl rfl h4) rfl rfl ?_
    refine WR.off (Gf rfl rfl rfl h4) rfl rfl ?_
    refine WR.off (Gu rfl rfl rfl) rfl rfl ?_
    refine WR.off (Gu rfl rfl rfl) rfl rfl ?_
    refine WR.off (Gu rfl rfl rfl) rfl rfl ?_
    refine WR.off (Gf rfl rfl rfl h4) rfl rfl ?_
    refine WR.val (G0 rfl) rfl rfl (.pick_f rfl rfl h4 rfl) ?_
    refine WR.val (G0 rfl) rfl rfl (.move rfl rfl) ?_
    refine WR.off (Gf rfl rfl rfl rfl) rfl rfl ?_
    refine WR.off (Gf rfl rfl rfl rfl) rfl rfl ?_
    refine WR.off (Gf rfl rfl rfl rfl) rfl rfl ?_
    refine WR.off (Gf rfl rfl rfl rfl) rfl rfl ?_
    refine WR.off (Gf rfl rfl rfl rfl) rfl rfl ?_
    refine WR.val (G0 rfl) rfl rfl (.pick_f rfl rfl rfl rfl) ?_
    refine WR.val (G0 rfl) rfl rfl (.move rfl rfl) ?_
    refine WR.off (Gf rfl rfl rfl rfl) rfl rfl ?_
    refine WR.off (Gf rfl rfl rfl rfl) rfl rfl ?_
    refine WR.off (Gf rfl rfl rfl rfl) rfl rfl ?_
    refine WR.val (G0 rfl) rfl rfl (.pick_f rfl rfl rfl rfl) ?_
    refine WR.val (G0 rfl) rfl rfl (.move rfl rfl) ?_
    refine WR.off (Gf rfl rfl rfl rfl) rfl rfl ?_
    refine WR.off (Gf rfl rfl rfl rfl) rfl rfl ?_
    refine WR.off (Gf rfl rfl rfl rfl) rfl rfl ?_
    refine WR.val (G0 rfl) rfl rfl (.pick_f rfl rfl rfl rfl) ?_
    refine WR.val (G0 rfl) rfl rfl (.move rfl rfl) ?_
    refine WR.off (Gf rfl rfl rfl rfl) rfl rfl ?_
    refine WR.off (Gf rfl rfl rfl rfl) rfl rfl ?_
    refine WR.off (Gf rfl rfl rfl rfl) rfl rfl ?_
    refine WR.off (Gf rfl rfl rfl rfl) rfl rfl ?_
    refine WR.off (Gu rfl rfl rfl) rfl rfl ?_
    refine WR.off (Gu rfl rfl rfl) rfl rfl ?_
    refine WR.off (Gu rfl rfl rfl) rfl rfl ?_
    refine WR.off (Gf rfl rfl rfl rfl) rfl rfl ?_
    refine WR.val (G0 rfl) rfl rfl (.pick_f rfl rfl rfl rfl) ?_
    refine WR.val (G0 rfl) rfl rfl (.assign rfl rfl) ?_
    refine WR.nil ?_
    exact WA.ret1 rfl rfl (List.nil_sublist _) ⟨by congr 1; rw [Bool.eq_iff_iff]; simp_all [nvalid, droot, Dot.eq_iff]; try (intros; omega), rfl⟩

set_option maxRecDepth 20000 in
/-- redpencil/redpencilref14.Merge -/
theorem jmergeF (a b : Nd) (w : World) : Ct Tryz.prog 130 #[nv a, nv b] [] w (fun u hs => u = .tuple #[nv (jmg a b).1, .bool (jmg a b).2] ∧ hs = []) := by
  refine Ct.intro Tryz.func130 rfl Tryz.ntmps130 rfl ?_
  refine WA.seq ?_
  refine WA.region ?_
  refine WR.dw (G0 rfl) rfl rfl (.box (vs := [_, _, _, _, _, _]) rfl rfl rfl) ?_
  rintro _ _ ⟨b2, rfl, rfl⟩
  refine WR.dw (G0 rfl) rfl rfl (.box (vs := [_, _, _, _, _, _]) rfl rfl rfl) ?_
  rintro _ _ ⟨b4, rfl, rfl⟩
  refine WR.dw (G0 rfl) rfl rfl (.alloc (vs := [_, _, _, _, _, _]) rfl ZT_42 rfl) ?_
  rintro _ _ ⟨b6, rfl, rfl⟩
  refine WR.val (G0 rfl) rfl rfl (.assign rfl rfl) ?_
  refine WR.nil ?_
  refine WA.seq ?_
  refine WA.seq ?_
  refine WA.region ?_
  refine WR.val (G0 rfl) rfl rfl (.fa rfl FA_42_0 rfl) ?_
  refine WR.val (G0 rfl) rfl rfl (.loadK (vs := [_, _]) rfl AG_39 rfl (fun _ hw => hw.rd_blk (k := 2) 2 rfl rfl)) ?_
  refine WR.val (G0 rfl) rfl rfl (.fa rfl FA_42_0 rfl) ?_
  refine WR.val (G0 rfl) rfl rfl (.loadK (vs := [_, _]) rfl AG_39 rfl (fun _ hw => hw.rd_blk (k := 2) 1 rfl rfl)) ?_
  refine WR.val (G0 rfl) rfl rfl (.bin rfl rfl rfl EQT_neq_39) ?_
  refine WR.val (G0 rfl) rfl rfl (.move rfl rfl) ?_
  refine WR.split (d := 11) rfl (fun h8 => ?_) (fun h8 => ?_)
  · have f9 := h8
    try simp only [decide_eq_true_eq, decide_eq_false_iff_not, Bool.not_eq_true', Bool.not_eq_false', Int.not_lt, Int.not_le] at f9
    refine WR.off (Gf rfl rfl rfl h8) rfl rfl ?_
    refine WR.off (Gf rfl rfl rfl h8) rfl rfl ?_
    refine WR.off (Gf rfl rfl rfl h8) rfl rfl ?_
    refine WR.off (Gf rfl rfl rfl h8) rfl rfl ?_
    refine WR.off (Gf rfl rfl rfl h8) rfl rfl ?_
    refine WR.val (G0 rfl) rfl rfl (.pick_t rfl rfl h8 rfl) ?_
    refine WR.val (G0 rfl) rfl rfl (.move rfl rfl) ?_
    refine WR.off (Gf rfl rfl rfl rfl) rfl rfl ?_
    refine WR.off (Gf rfl rfl rfl rfl) rfl rfl ?_
    refine WR.off (Gf rfl rfl rfl rfl) rfl rfl ?_
    refine WR.off (Gf rfl rfl rfl rfl) rfl rfl ?_
    refine WR.off (Gf rfl rfl rfl rfl) rfl rfl ?_
    refine WR.val (G0 rfl) rfl rfl (.pick_t rfl rfl rfl rfl) ?_
    refine WR.val (G0 rfl) rfl rfl (.move rfl rfl) ?_
    refine WR.off (Gf rfl rfl rfl rfl) rfl rfl ?_
    refine WR.off (Gf rfl rfl rfl rfl) rfl rfl ?_
    refine WR.off (Gf rfl rfl rfl rfl) rfl rfl ?_
    refine WR.off (Gf rfl rfl rfl rfl) rfl rfl ?_
    refine WR.off (Gu rfl rfl rfl) rfl rfl ?_
    refine WR.off (Gu rfl rfl rfl) rfl rfl ?_
    refine WR.off (Gu rfl rfl rfl) rfl rfl ?_
    refine WR.off (Gf rfl rfl rfl rfl) rfl rfl ?_
    refine WR.off (Gf rfl rfl rfl rfl) rfl rfl ?_
    refine WR.off (Gu rfl rfl rfl) rfl rfl ?_
    refine WR.off (Gu rfl rfl rfl) rfl rfl ?_
    refine WR.off (Gu rfl rfl rfl) rfl rfl ?_
    refine WR.off (Gu rfl rfl rfl) rfl rfl ?_
    refine WR.off (Gu rfl rfl rfl) rfl rfl ?_
    refine WR.off (Gf rfl rfl rfl rfl) rfl rfl ?_
    refine WR.val (G0 rfl) rfl rfl (.pick_t rfl rfl rfl rfl) ?_
    refine WR.nil ?_
    refine WA.cond_t rfl rfl ?_
    refine WA.seq ?_
    refine WA.region ?_
    refine WR.val (G0 rfl) rfl rfl (.build (vs := [_, _, _, _, _, _]) [.int .i64 0, .int .i64 0, .int .i64 0, .int .i64 0, .int .i64 0, .int .i32 0] [0, 2, 4, 5] rfl rfl rfl (fun _ => by kernel_rfl)) ?_
    refine WR.dw0 (G0 rfl) rfl (.store (i := 0) rfl AG_42.2 rfl rfl [_, _, _, _, _, _] rfl rfl (by intro u hu; simp at hu; rcases hu with rfl | rfl | rfl | rfl | rfl | rfl <;> rfl) rfl rfl) ?_
    rintro _ _ ⟨rfl, rfl⟩
    refine WR.val (G0 rfl) rfl rfl (.assign rfl rfl) ?_
    refine WR.nil ?_
    exact WA.retv2 rfl (.cellK (vs := [_, _, _, _, _, _]) AG_42 rfl (fun _ hw => hw.rd_blk (k := 6) 0 rfl rfl)) (.tmp rfl) (List.nil_sublist _) ⟨by simp_all [jmg, zn], rfl⟩
  · have f10 := h8
    try simp only [decide_eq_true_eq, decide_eq_false_iff_not, Bool.not_eq_true', Bool.not_eq_false', Int.not_lt, Int.not_le] at f10
    refine WR.val (Gt rfl rfl rfl h8) rfl rfl (.fa rfl FA_42_1 rfl) ?_
    refine WR.val (Gt rfl rfl rfl h8) rfl rfl (.loadK (vs := [_, _]) rfl AG_39 rfl (fun _ hw => hw.rd_blk (k := 2) 2 rfl rfl)) ?_
    refine WR.val (Gt rfl rfl rfl h8) rfl rfl (.fa rfl FA_42_1 rfl) ?_
    refine WR.val (Gt rfl rfl rfl h8) rfl rfl (.loadK (vs := [_, _]) rfl AG_39 rfl (fun _ hw => hw.rd_blk (k := 2) 1 rfl rfl)) ?_
    refine WR.val (Gt rfl rfl rfl h8) rfl rfl (.bin rfl rfl rfl EQT_neq_39) ?_
    refine WR.val (G0 rfl) rfl rfl (.pick_f rfl rfl h8 rfl) ?_
    refine WR.val (G0 rfl) rfl rfl (.move rfl rfl) ?_
    refine WR.split (d := 18) rfl (fun h12 => ?_) (fun h12 => ?_)
    · have f13 := h12
      try simp only [decide_eq_true_eq, decide_eq_false_iff_not, Bool.not_eq_true', Bool.not_eq_false', Int.not_lt, Int.not_le] at f13
      refine WR.off (Gf rfl rfl rfl h12) rfl rfl ?_
      refine WR.off (Gf rfl rfl rfl h12) rfl rfl ?_
      refine WR.off (Gf rfl rfl rfl h12) rfl rfl ?_
      refine WR.off (Gf rfl rfl rfl h12) rfl rfl ?_
      refine WR.off (Gf rfl rfl rfl h12) rfl rfl ?_
      refine WR.val (G0 rfl) rfl rfl (.pick_t rfl rfl h12 rfl) ?_
      refine WR.val (G0 rfl) rfl rfl (.move rfl rfl) ?_
      refine WR.off (Gf rfl rfl rfl rfl) rfl rfl ?_
      refine WR.off (Gf rfl rfl rfl rfl) rfl rfl ?_
      refine WR.off (Gf rfl rfl rfl rfl) rfl rfl ?_
      refine WR.off (Gf rfl rfl rfl rfl) rfl rfl ?_
      refine WR.off (Gu rfl rfl rfl) rfl rfl ?_
      refine WR.off (Gu rfl rfl rfl) rfl rfl ?_
      refine WR.off (Gu rfl rfl rfl) rfl rfl ?_
      refine WR.off (Gf rfl rfl rfl rfl) rfl rfl ?_
      refine WR.off (Gf rfl rfl rfl rfl) rfl rfl ?_
      refine WR.off (Gu rfl rfl rfl) rfl rfl ?_
      refine WR.off (Gu rfl rfl rfl) rfl rfl ?_
      refine WR.off (Gu rfl rfl rfl) rfl rfl ?_
      refine WR.off (Gu rfl rfl rfl) rfl rfl ?_
      refine WR.off (Gu rfl rfl rfl) rfl rfl ?_
      refine WR.off (Gf rfl rfl rfl rfl) rfl rfl ?_
      refine WR.val (G0 rfl) rfl rfl (.pick_t rfl rfl rfl rfl) ?_
      refine WR.nil ?_
      refine WA.cond_t rfl rfl ?_
      refine WA.seq ?_
      refine WA.region ?_
      refine WR.val (G0 rfl) rfl rfl (.build (vs := [_, _, _, _, _, _]) [.int .i64 0, .int .i64 0, .int .i64 0, .int .i64 0, .int .i64 0, .int .i32 0] [0, 2, 4, 5] rfl rfl rfl (fun _ => by kernel_rfl)) ?_
      refine WR.dw0 (G0 rfl) rfl (.store (i := 0) rfl AG_42.2 rfl rfl [_, _, _, _, _, _] rfl rfl (by intro u hu; simp at hu; rcases hu with rfl | rfl | rfl | rfl | rfl | rfl <;> rfl) rfl rfl) ?_
      rintro _ _ ⟨rfl, rfl⟩
      refine WR.val (G0 rfl) rfl rfl (.assign rfl rfl) ?_
      refine WR.nil ?_
      exact WA.retv2 rfl (.cellK (vs := [_, _, _, _, _, _]) AG_42 rfl (fun _ hw => hw.rd_blk (k := 6) 0 rfl rfl)) (.tmp rfl) (List.nil_sublist _) ⟨by simp_all [jmg, zn], rfl⟩
    · have f14 := h12
      try simp only [decide_eq_true_eq, decide_eq_false_iff_not, Bool.not_eq_true', Bool.not_eq_false', Int.not_lt, Int.not_le] at f14
      refine WR.val (Gt rfl rfl rfl h12) rfl rfl (.fa rfl FA_42_2 rfl) ?_
      refine WR.val (Gt rfl rfl rfl h12) rfl rfl (.load1 rfl NA_3 rfl (fun _ hw => hw.rd_blk (k := 1) 2 rfl rfl)) ?_
      refine WR.val (Gt rfl rfl rfl h12) rfl rfl (.fa rfl FA_42_2 rfl) ?_
      refine WR.val (Gt rfl rfl rfl h12) rfl rfl (.load1 rfl NA_3 rfl (fun _ hw => hw.rd_blk (k := 1) 1 rfl rfl)) ?_
      refine WR.val (Gt rfl rfl rfl h12) rfl rfl (.neq rfl rfl rfl) ?_
      refine WR.val (G0 rfl) rfl rfl (.pick_f rfl rfl h12 rfl) ?_
      refine WR.val (G0 rfl) rfl rfl (.move rfl rfl) ?_
      refine WR.split (d := 25) rfl (fun h16 => ?_) (fun h16 => ?_)
      · have f17 := h16
        try simp only [decide_eq_true_eq, decide_eq_false_iff_not, Bool.not_eq_true', Bool.not_eq_false', Int.not_lt, Int.not_le] at f17
        refine WR.off (Gf rfl rfl rfl h16) rfl rfl ?_
        refine WR.off (Gf rfl rfl rfl h16) rfl rfl ?_
        refine WR.off (Gf rfl rfl rfl h16) rfl rfl ?_
        refine WR.off (Gf rfl rfl rfl h16) rfl rfl ?_
        refine WR.off (Gu rfl rfl rfl) rfl rfl ?_
        refine WR.off (Gu rfl rfl rfl) rfl rfl ?_
        refine WR.off (Gu rfl rfl rfl) rfl rfl ?_
        refine WR.off (Gf rfl rfl rfl h16) rfl rfl ?_
        refine WR.off (Gf rfl rfl rfl h16) rfl rfl ?_
        refine WR.off (Gu rfl rfl rfl) rfl rfl ?_
        refine WR.off (Gu rfl rfl rfl) rfl rfl ?_
        refine WR.off (Gu rfl rfl rfl) rfl rfl ?_
        refine WR.off (Gu rfl rfl rfl) rfl rfl ?_
        refine WR.off (Gu rfl rfl rfl) rfl rfl ?_
        refine WR.off (Gf rfl rfl rfl h16) rfl rfl ?_
        refine WR.val (G0 rfl) rfl rfl (.pick_t rfl rfl h16 rfl) ?_
        refine WR.nil ?_
        refine WA.cond_t rfl rfl ?_
        refine WA.seq ?_
        refine WA.region ?_
        refine WR.val (G0 rfl) rfl rfl (.build (vs := [_, _, _, _, _, _]) [.int .i64 0, .int .i64 0, .int .i64 0, .int .i64 0, .int .i64 0, .int .i32 0] [0, 2, 4, 5] rfl rfl rfl (fun _ => by kernel_rfl)) ?_
        refine WR.dw0 (G0 rfl) rfl (.store (i := 0) rfl AG_42.2 rfl rfl [_, _, _, _, _, _] rfl rfl (by intro u hu; simp at hu; rcases hu with rfl | rfl | rfl | rfl | rfl | rfl <;> rfl) rfl rfl) ?_
        rintro _ _ ⟨rfl, rfl⟩
        refine WR.val (G0 rfl) rfl rfl (.assign rfl rfl) ?_
        refine WR.nil ?_
        exact WA.retv2 rfl (.cellK (vs := [_, _, _, _, _, _]) AG_42 rfl (fun _ hw => hw.rd_blk (k := 6) 0 rfl rfl)) (.tmp rfl) (List.nil_sublist _) ⟨by simp_all [jmg, zn], rfl⟩
      · have f18 := h16
        try simp only [decide_eq_true_eq, decide_eq_false_iff_not, Bool.not_eq_true', Bool.not_eq_false', Int.not_lt, Int.not_le] at f18
        refine WR.val (Gt rfl rfl rfl h16) rfl rfl (.fa rfl FA_42_3 rfl) ?_
        refine WR.val (Gt rfl rfl rfl h16) rfl rfl (.load1 rfl NA_21 rfl (fun _ hw => hw.rd_blk (k := 1) 2 rfl rfl)) ?_
        refine WR.val (Gt rfl rfl rfl h16) rfl rfl (.neq rfl rfl rfl) ?_
        refine WR.val (Gt rfl rfl rfl h16) rfl rfl (.move rfl rfl) ?_
        refine WR.split (d := 29) rfl (fun h20 => ?_) (fun h20 => ?_)
        · have f21 := h20
          try simp only [decide_eq_true_eq, decide_eq_false_iff_not, Bool.not_eq_true', Bool.not_eq_false', Int.not_lt, Int.not_le] at f21
          refine WR.val (Gt rfl rfl rfl h20) rfl rfl (.fa rfl FA_42_3 rfl) ?_
          refine WR.val (Gt rfl rfl rfl h20) rfl rfl (.load1 rfl NA_21 rfl (fun _ hw => hw.rd_blk (k := 1) 1 rfl rfl)) ?_
          refine WR.val (Gt rfl rfl rfl h20) rfl rfl (.neq rfl rfl rfl) ?_
          refine WR.val (Gt rfl rfl rfl h16) rfl rfl (.pick_t rfl rfl h20 rfl) ?_
          refine WR.val (Gt rfl rfl rfl h16) rfl rfl (.move rfl rfl) ?_
          refine WR.split (d := 34) rfl (fun h23 => ?_) (fun h23 => ?_)
          · have f24 := h23
            try simp only [decide_eq_true_eq, decide_eq_false_iff_not, Bool.not_eq_true', Bool.not_eq_false', Int.not_lt, Int.not_le] at f24
            refine WR.val (Gt rfl rfl rfl h23) rfl rfl (.fa rfl FA_42_3 rfl) ?_
            refine WR.val (Gt rfl rfl rfl h23) rfl rfl (.load1 rfl NA_21 rfl (fun _ hw => hw.rd_blk (k := 1) 2 rfl rfl)) ?_
            refine WR.val (Gt rfl rfl rfl h23) rfl rfl (.fa rfl FA_42_3 rfl) ?_
            refine WR.val (Gt rfl rfl rfl h23) rfl rfl (.load1 rfl NA_21 rfl (fun _ hw => hw.rd_blk (k := 1) 1 rfl rfl)) ?_
            refine WR.val (Gt rfl rfl rfl h23) rfl rfl (.neq rfl rfl rfl) ?_
            refine WR.val (Gt rfl rfl rfl h16) rfl rfl (.pick_t rfl rfl h23 rfl) ?_
            refine WR.val (G0 rfl) rfl rfl (.pick_f rfl rfl h16 rfl) ?_
            refine WR.nil ?_
            refine WA.cond rfl (fun h26 => ?_) (fun h26 => ?_)
            · have f27 := h26
              try simp only [decide_eq_true_eq, decide_eq_false_iff_not, Bool.not_eq_true', Bool.not_eq_false', Int.not_lt, Int.not_le] at f27
              refine WA.seq ?_
              refine WA.region ?_
              refine WR.val (G0 rfl) rfl rfl (.build (vs := [_, _, _, _, _, _]) [.int .i64 0, .int .i64 0, .int .i64 0, .int .i64 0, .int .i64 0, .int .i32 0] [0, 2, 4, 5] rfl rfl rfl (fun _ => by kernel_rfl)) ?_
              refine WR.dw0 (G0 rfl) rfl (.store (i := 0) rfl AG_42.2 rfl rfl [_, _, _, _, _, _] rfl rfl (by intro u hu; simp at hu; rcases hu with rfl | rfl | rfl | rfl | rfl | rfl <;> rfl) rfl rfl) ?_
              rintro _ _ ⟨rfl, rfl⟩
              refine WR.val (G0 rfl) rfl rfl (.assign rfl rfl) ?_
              refine WR.nil ?_
              exact WA.retv2 rfl (.cellK (vs := [_, _, _, _, _, _]) AG_42 rfl (fun _ hw => hw.rd_blk (k := 6) 0 rfl rfl)) (.tmp rfl) (List.nil_sublist _) ⟨by simp_all [jmg, zn], rfl⟩
            · have f28 := h26
              try simp only [decide_eq_true_eq, decide_eq_false_iff_not, Bool.not_eq_true', Bool.not_eq_false', Int.not_lt, Int.not_le] at f28
              refine WA.skip ?_
              refine WA.seq ?_
              refine WA.seq ?_
              refine WA.region ?_
              refine WR.val (G0 rfl) rfl rfl (.fa rfl FA_42_3 rfl) ?_
              refine WR.val (G0 rfl) rfl rfl (.load1 rfl NA_21 rfl (fun _ hw => hw.rd_blk (k := 1) 1 rfl rfl)) ?_
              refine WR.val (G0 rfl) rfl rfl (.eql rfl rfl rfl) ?_
              refine WR.nil ?_
              refine WA.cond rfl (fun h30 => ?_) (fun h30 => ?_)
              · have f31 := h30
                try simp only [decide_eq_true_eq, decide_eq_false_iff_not, Bool.not_eq_true', Bool.not_eq_false', Int.not_lt, Int.not_le] at f31
                refine WA.seq ?_
                refine WA.region ?_
                refine WR.val (G0 rfl) rfl rfl (.loadK (vs := [_, _, _, _, _, _]) rfl AG_42 rfl (fun _ hw => hw.rd_blk (k := 6) 1 rfl rfl)) ?_
                refine WR.dw0 (G0 rfl) rfl (.store (i := 0) rfl AG_42.2 rfl rfl [_, _, _, _, _, _] rfl rfl (by intro u hu; simp at hu; rcases hu with rfl | rfl | rfl | rfl | rfl | rfl <;> rfl) rfl rfl) ?_
                rintro _ _ ⟨rfl, rfl⟩
                refine WR.val (G0 rfl) rfl rfl (.assign rfl rfl) ?_
                refine WR.nil ?_
                exact WA.retv2 rfl (.cellK (vs := [_, _, _, _, _, _]) AG_42 rfl (fun _ hw => hw.rd_blk (k := 6) 0 rfl rfl)) (.tmp rfl) (List.nil_sublist _) ⟨by simp_all [jmg, zn], rfl⟩
              · have f32 := h30
                try simp only [decide_eq_true_eq, decide_eq_false_iff_not, Bool.not_eq_true', Bool.not_eq_false', Int.not_lt, Int.not_le] at f32
                refine WA.skip ?_
                refine WA.seq ?_
                refine WA.region ?_
                refine WR.val (G0 rfl) rfl rfl (.loadK (vs := [_, _, _, _, _, _]) rfl AG_42 rfl (fun _ hw => hw.rd_blk (k := 6) 2 rfl rfl)) ?_
                refine WR.dw0 (G0 rfl) rfl (.store (i := 0) rfl AG_42.2 rfl rfl [_, _, _, _, _, _] rfl rfl (by intro u hu; simp at hu; rcases hu with rfl | rfl | rfl | rfl | rfl | rfl <;> rfl) rfl rfl) ?_
                rintro _ _ ⟨rfl, rfl⟩
                refine WR.val (G0 rfl) rfl rfl (.assign rfl rfl) ?_
                refine WR.nil ?_
                exact WA.retv2 rfl (.cellK (vs := [_, _, _, _, _, _]) AG_42 rfl (fun _ hw => hw.rd_blk (k := 6) 0 rfl rfl)) (.tmp rfl) (List.nil_sublist _) ⟨by simp_all [jmg, zn], rfl⟩
          · have f33 := h23
            try simp only [decide_eq_true_eq, decide_eq_false_iff_not, Bool.not_eq_true', Bool.not_eq_false', Int.not_lt, Int.not_le] at f33
            refine WR.off (Gf rfl rfl rfl h23) rfl rfl ?_
            refine WR.off (Gf rfl rfl rfl h23) rfl rfl ?_
            refine WR.off (Gf rfl rfl rfl h23) rfl rfl ?_
            refine WR.off (Gf rfl rfl rfl h23) rfl rfl ?_
            refine WR.off (Gf rfl rfl rfl h23) rfl rfl ?_
            refine WR.val (Gt rfl rfl rfl h16) rfl rfl (.pick_f rfl rfl h23 rfl) ?_
            refine WR.val (G0 rfl) rfl rfl (.pick_f rfl rfl h16 rfl) ?_
            refine WR.nil ?_
            refine WA.cond_f rfl rfl ?_
            refine WA.skip ?_
            refine WA.seq ?_
            refine WA.seq ?_
            refine WA.region ?_
            refine WR.val (G0 rfl) rfl rfl (.fa rfl FA_42_3 rfl) ?_
            refine WR.val (G0 rfl) rfl rfl (.load1 rfl NA_21 rfl (fun _ hw => hw.rd_blk (k := 1) 1 rfl rfl)) ?_
            refine WR.val (G0 rfl) rfl rfl (.eql rfl rfl rfl) ?_
            refine WR.nil ?_
            refine WA.cond rfl (fun h35 => ?_) (fun h35 => ?_)
            · have f36 := h35
              try simp only [decide_eq_true_eq, decide_eq_false_iff_not, Bool.not_eq_true', Bool.not_eq_false', Int.not_lt, Int.not_le] at f36
              refine WA.seq ?_
              refine WA.region ?_
              refine WR.val (G0 rfl) rfl rfl (.loadK (vs := [_, _, _, _, _, _]) rfl AG_42 rfl (fun _ hw => hw.rd_blk (k := 6) 1 rfl rfl)) ?_
              refine WR.dw0 (G0 rfl) rfl (.store (i := 0) rfl AG_42.2 rfl rfl [_, _, _, _, _, _] rfl rfl (by intro u hu; simp at hu; rcases hu with rfl | rfl | rfl | rfl | rfl | rfl <;> rfl) rfl rfl) ?_
              rintro _ _ ⟨rfl, rfl⟩
              refine WR.val (G0 rfl) rfl rfl (.assign rfl rfl) ?_
              refine WR.nil ?_
              exact WA.retv2 rfl (.cellK (vs := [_, _, _, _, _, _]) AG_42 rfl (fun _ hw => hw.rd_blk (k := 6) 0 rfl rfl)) (.tmp rfl) (List.nil_sublist _) ⟨by simp_all [jmg, zn], rfl⟩
            · have f37 := h35
              try simp only [decide_eq_true_eq, decide_eq_false_iff_not, Bool.not_eq_true', Bool.not_eq_false', Int.not_lt, Int.not_le] at f37
              refine WA.skip ?_
              refine WA.seq ?_
              refine WA.region ?_
              refine WR.val (G0 rfl) rfl rfl (.loadK (vs := [_, _, _, _, _, _]) rfl AG_42 rfl (fun _ hw => hw.rd_blk (k := 6) 2 rfl rfl)) ?_
              refine WR.dw0 (G0 rfl) rfl (.store (i := 0) rfl AG_42.2 rfl rfl [_, _, _, _, _, _] rfl rfl (by intro u hu; simp at hu; rcases hu with rfl | rfl | rfl | rfl | rfl | rfl <;> rfl) rfl rfl) ?_
              rintro _ _ ⟨rfl, rfl⟩
              refine WR.val (G0 rfl) rfl rfl (.assign rfl rfl) ?_
              refine WR.nil ?_
              exact WA.retv2 rfl (.cellK (vs := [_, _, _, _, _, _]) AG_42 rfl (fun _ hw => hw.rd_blk (k := 6) 0 rfl rfl)) (.tmp rfl) (List.nil_sublist _) ⟨by simp_all [jmg, zn], rfl⟩
        · have f38 := h20
          try simp only [decide_eq_true_eq, decide_eq_false_iff_not, Bool.not_eq_true', Bool.not_eq_false', Int.not_lt, Int.not_le] at f38
          refine WR.off (Gf rfl rfl rfl h20) rfl rfl ?_
          refine WR.off (Gf rfl rfl rfl h20) rfl rfl ?_
          refine WR.off (Gf rfl rfl rfl h20) rfl rfl ?_
          refine WR.val (Gt rfl rfl rfl h16) rfl rfl (.pick_f rfl rfl h20 rfl) ?_
          refine WR.val (Gt rfl rfl rfl h16) rfl rfl (.move rfl rfl) ?_
          refine WR.off (Gf rfl rfl rfl rfl) rfl rfl ?_
          refine WR.off (Gf rfl rfl rfl rfl) rfl rfl ?_
          refine WR.off (Gf rfl rfl rfl rfl) rfl rfl ?_
          refine WR.off (Gf rfl rfl rfl rfl) rfl rfl ?_
          refine WR.off (Gf rfl rfl rfl rfl) rfl rfl ?_
          refine WR.val (Gt rfl rfl rfl h16) rfl rfl (.pick_f rfl rfl rfl rfl) ?_
          refine WR.val (G0 rfl) rfl rfl (.pick_f rfl rfl h16 rfl) ?_
          refine WR.nil ?_
          refine WA.cond_f rfl rfl ?_
          refine WA.skip ?_
          refine WA.seq ?_
          refine WA.seq ?_
          refine WA.region ?_
          refine WR.val (G0 rfl) rfl rfl (.fa rfl FA_42_3 rfl) ?_
          refine WR.val (G0 rfl) rfl rfl (.load1 rfl NA_21 rfl (fun _ hw => hw.rd_blk (k := 1) 1 rfl rfl)) ?_
          refine WR.val (G0 rfl) rfl rfl (.eql rfl rfl rfl) ?_
          refine WR.nil ?_
          refine WA.cond rfl (fun h40 => ?_) (fun h40 => ?_)
          · have f41 := h40
            try simp only [decide_eq_true_eq, decide_eq_false_iff_not, Bool.not_eq_true', Bool.not_eq_false', Int.not_lt, Int.not_le] at f41
            refine WA.seq ?_
            refine WA.region ?_
            refine WR.val (G0 rfl) rfl rfl (.loadK (vs := [_, _, _, _, _, _]) rfl AG_42 rfl (fun _ hw => hw.rd_blk (k := 6) 1 rfl rfl)) ?_
            refine WR.dw0 (G0 rfl) rfl (.store (i := 0) rfl AG_42.2 rfl rfl [_, _, _, _, _, _] rfl rfl (by intro u hu; simp at hu; rcases hu with rfl | rfl | rfl | rfl | rfl | rfl <;> rfl) rfl rfl) ?_
            rintro _ _ ⟨rfl, rfl⟩
            refine WR.val (G0 rfl) rfl rfl (.assign rfl rfl) ?_
            refine WR.nil ?_
            exact WA.retv2 rfl (.cellK (vs := [_, _, _, _, _, _]) AG_42 rfl (fun _ hw => hw.rd_blk (k := 6) 0 rfl rfl)) (.tmp rfl) (List.nil_sublist _) ⟨by simp_all [jmg, zn], rfl⟩
          · have f42 := h40
            try simp only [decide_eq_true_eq, decide_eq_false_iff_not, Bool.not_eq_true', Bool.not_eq_false', Int.not_lt, Int.not_le] at f42
            refine WA.skip ?_
            refine WA.seq ?_
            refine WA.region ?_
            refine WR.val (G0 rfl) rfl rfl (.loadK (vs := [_, _, _, _, _, _]) rfl AG_42 rfl (fun _ hw => hw.rd_blk (k := 6) 2 rfl rfl)) ?_
            refine WR.dw0 (G0 rfl) rfl (.store (i := 0) rfl AG_42.2 rfl rfl [_, _, _, _, _, _] rfl rfl (by intro u hu; simp at hu; rcases hu with rfl | rfl | rfl | rfl | rfl | rfl <;> rfl) rfl rfl) ?_
            rintro _ _ ⟨rfl, rfl⟩
            refine WR.val (G0 rfl) rfl rfl (.assign rfl rfl) ?_
            refine WR.nil ?_
            exact WA.retv2 rfl (.cellK (vs := [_, _, _, _, _, _]) AG_42 rfl (fun _ hw => hw.rd_blk (k := 6) 0 rfl rfl)) (.tmp rfl) (List.nil_sublist _) ⟨by simp_all [jmg, zn], rfl⟩

set_option maxRecDepth 20000 in
/-- redpencil/redpencilref14.Store -/
theorem jstoreF (l : List Nd) (A : Option Addr) (cap : Nat) (w : World) (hS : SlN w A l) (hl : l.length ≤ 800000) : Ct Tryz.prog 54 #[.slice A l.length cap] [] w (fun u hs => u = .bool (storeOk l) ∧ hs = []) := by
  refine Ct.intro Tryz.func54 rfl Tryz.ntmps54 rfl ?_
  refine WA.seq ?_
  refine WA.region ?_
  refine WR.val (G0 rfl) rfl rfl (.assign rfl rfl) ?_
  refine WR.nil ?_
  refine WA.seq ?_
  refine WA.seq ?_
  refine WA.region ?_
  refine WR.val (G0 rfl) rfl rfl (.assign rfl rfl) ?_
  refine WR.nil ?_
  refine WA.block ?_
  refine WA.loopK (γ := Nat) [(0, _)] [] (fun k => [(3, .int .i64 (k : Int))]) (fun k => []) (fun k => k ≤ l.length ∧ ∀ j : Nat, j < k → okAt l j) (fun k => l.length - k) 0 (.cons rfl (.nil _)) (.cons rfl (.nil _)) .slnil ⟨by omega, fun _ h => absurd h (by omega)⟩ ?_
  intro k hk
  obtain ⟨hk, hd⟩ := hk
  refine WA.seq ?_
  refine WA.seq ?_
  refine WA.region ?_
  refine WR.val (G0 rfl) rfl rfl (.move rfl rfl) ?_
  refine WR.val (G0 rfl) rfl rfl (.move rfl rfl) ?_
  refine WR.val (G0 rfl) rfl rfl (.len rfl ST_23.1 rfl) ?_
  refine WR.val (G0 rfl) rfl rfl (.lss rfl rfl rfl) ?_
  refine WR.nil ?_
  refine WA.cond rfl (fun h2 => ?_) (fun h2 => ?_)
  · have f3 := h2
    try simp only [decide_eq_true_eq, decide_eq_false_iff_not, Bool.not_eq_true', Bool.not_eq_false', Int.not_lt, Int.not_le] at f3
    refine WA.skip ?_
    refine WA.seq ?_
    refine WA.block ?_
    refine WA.seq ?_
    refine WA.draws0 follows ?_
    refine WH.take 0 rfl (Pf_blind _ _ _ _ _) (by kernel_rfl) (by kernel_rfl) (by kernel_rfl) .slnil (G0 rfl) rfl rfl (.move rfl rfl) ?_
    refine WH.take 1 rfl (Pf_blind _ _ _ _ _) (by kernel_rfl) (by kernel_rfl) (by kernel_rfl) .slnil (G0 rfl) rfl rfl (.move rfl rfl) ?_
    refine WH.take 2 rfl (Pf_blind _ _ _ _ _) (by kernel_rfl) (by kernel_rfl) (by kernel_rfl) .slnil (G0 rfl) rfl rfl (.ix rfl ST_23 rfl rfl (by omega) (by omega) (fun _ hw hn => (hw.slf0 hS).some_ hn)) ?_
    refine WH.take 3 rfl (Pf_blind _ _ _ _ _) (by kernel_rfl) (by kernel_rfl) (by kernel_rfl) .slnil (G0 rfl) rfl rfl (.loadK (vs := [_, _, _, _, _, _]) rfl AG_42 rfl (fun _ hw => rdN (hw.slf0 hS) (by omega) (by omega))) ?_
    refine WH.dw 4 rfl (by kernel_rfl) (G0 rfl) rfl rfl (.callv (caps := []) rfl rfl rfl EN_128 (fun w hw => jisnodeF _ w)) ?_
    rintro _ _ ⟨rfl, rfl⟩
    refine ⟨.slnil, ?_⟩
    refine WH.take 5 rfl (Pf_blind _ _ _ _ _) (by kernel_rfl) (by kernel_rfl) (by kernel_rfl) .slnil (G0 rfl) rfl rfl (.not rfl rfl) ?_
    refine WH.take 6 rfl (Pf_blind _ _ _ _ _) (by kernel_rfl) (by kernel_rfl) (by kernel_rfl) .slnil (G0 rfl) rfl rfl (.move rfl rfl) ?_
    refine WH.split (d := 16) rfl (fun h7 => ?_) (fun h7 => ?_)
    · have f8 := h7
      try simp only [decide_eq_true_eq, decide_eq_false_iff_not, Bool.not_eq_true', Bool.not_eq_false', Int.not_lt, Int.not_le] at f8
      refine WH.off 7 rfl (Pf_blind _ _ _ _ _) (by kernel_rfl) (by kernel_rfl) (by kernel_rfl) .slnil (Gf rfl rfl rfl h7) rfl rfl ?_
      refine WH.off 8 rfl (Pf_blind _ _ _ _ _) (by kernel_rfl) (by kernel_rfl) (by kernel_rfl) .slnil (Gf rfl rfl rfl h7) rfl rfl ?_
      refine WH.off 9 rfl (Pf_blind _ _ _ _ _) (by kernel_rfl) (by kernel_rfl) (by kernel_rfl) .slnil (Gf rfl rfl rfl h7) rfl rfl ?_
      refine WH.off 10 rfl (Pf_blind _ _ _ _ _) (by kernel_rfl) (by kernel_rfl) (by kernel_rfl) .slnil (Gu rfl rfl rfl) rfl rfl ?_
      refine WH.off 11 rfl (Pf_blind _ _ _ _ _) (by kernel_rfl) (by kernel_rfl) (by kernel_rfl) .slnil (Gu rfl rfl rfl) rfl rfl ?_
      refine WH.off 12 rfl (Pf_blind _ _ _ _ _) (by kernel_rfl) (by kernel_rfl) (by kernel_rfl) .slnil (Gu rfl rfl rfl) rfl rfl ?_
      refine WH.off 13 rfl (Pf_blind _ _ _ _ _) (by kernel_rfl) (by kernel_rfl) (by kernel_rfl) .slnil (Gu rfl rfl rfl) rfl rfl ?_
      refine WH.off 14 rfl (Pf_blind _ _ _ _ _) (by kernel_rfl) (by kernel_rfl) (by kernel_rfl) .slnil (Gu rfl rfl rfl) rfl rfl ?_
      refine WH.off 15 rfl (Pf_blind _ _ _ _ _) (by kernel_rfl) (by kernel_rfl) (by kernel_rfl) .slnil (Gu rfl rfl rfl) rfl rfl ?_
      refine WH.off 16 rfl (Pf_blind _ _ _ _ _) (by kernel_rfl) (by kernel_rfl) (by kernel_rfl) .slnil (Gu rfl rfl rfl) rfl rfl ?_
      refine WH.off 17 rfl (Pf_blind _ _ _ _ _) (by kernel_rfl) (by kernel_rfl) (by kernel_rfl) .slnil (Gu rfl rfl rfl) rfl rfl ?_
      refine WH.off 18 rfl (Pf_blind _ _ _ _ _) (by kernel_rfl) (by kernel_rfl) (by kernel_rfl) .slnil (Gu rfl rfl rfl) rfl rfl ?_
      refine WH.off 19 rfl (Pf_blind _ _ _ _ _) (by kernel_rfl) (by kernel_rfl) (by kernel_rfl) .slnil (Gu rfl rfl rfl) rfl rfl ?_
      refine WH.off 20 rfl (Pf_blind _ _ _ _ _) (by kernel_rfl) (by kernel_rfl) (by kernel_rfl) .slnil (Gu rfl rfl rfl) rfl rfl ?_
      refine WH.off 21 rfl (Pf_blind _ _ _ _ _) (by kernel_rfl) (by kernel_rfl) (by kernel_rfl) .slnil (Gu rfl rfl rfl) rfl rfl ?_
      refine WH.off 22 rfl (Pf_blind _ _ _ _ _) (by kernel_rfl) (by kernel_rfl) (by kernel_rfl) .slnil (Gu rfl rfl rfl) rfl rfl ?_
      refine WH.off 23 rfl (Pf_blind _ _ _ _ _) (by kernel_rfl) (by kernel_rfl) (by kernel_rfl) .slnil (Gf rfl rfl rfl h7) rfl rfl ?_
      refine WH.take 24 rfl (Pf_blind _ _ _ _ _) (by kernel_rfl) (by kernel_rfl) (by kernel_rfl) .slnil (G0 rfl) rfl rfl (.pick_t rfl rfl h7 rfl) ?_
      refine WH.done (by kernel_rfl) ?_
      refine WA.cond_t rfl rfl ?_
      refine WA.seq ?_
      refine WA.region ?_
      refine WR.val (G0 rfl) rfl rfl (.assign rfl rfl) ?_
      refine WR.nil ?_
      exact WA.ret1 rfl rfl (List.nil_sublist _) ⟨by rw [storeOk_not (i := k) (by omega) (by simp_all [okAt] <;> omega)], rfl⟩
    · have f9 := h7
      try simp only [decide_eq_true_eq, decide_eq_false_iff_not, Bool.not_eq_true', Bool.not_eq_false', Int.not_lt, Int.not_le] at f9
      refine WH.take 7 rfl (Pf_blind _ _ _ _ _) (by kernel_rfl) (by kernel_rfl) (by kernel_rfl) .slnil (Gt rfl rfl rfl h7) rfl rfl (.move rfl rfl) ?_
      refine WH.take 8 rfl (Pf_blind _ _ _ _ _) (by kernel_rfl) (by kernel_rfl) (by kernel_rfl) .slnil (Gt rfl rfl rfl h7) rfl rfl (.gtr rfl rfl rfl) ?_
      refine WH.take 9 rfl (Pf_blind _ _ _ _ _) (by kernel_rfl) (by kernel_rfl) (by kernel_rfl) .slnil (Gt rfl rfl rfl h7) rfl rfl (.move rfl rfl) ?_
      refine WH.split (d := 19) rfl (fun h11 => ?_) (fun h11 => ?_)
      · have f12 := h11
        try simp only [decide_eq_true_eq, decide_eq_false_iff_not, Bool.not_eq_true', Bool.not_eq_false', Int.not_lt, Int.not_le] at f12
        refine WH.take 10 rfl (Pf_blind _ _ _ _ _) (by kernel_rfl) (by kernel_rfl) (by kernel_rfl) .slnil (Gt rfl rfl rfl h11) rfl rfl (.move rfl rfl) ?_
        refine WH.take 11 rfl (Pf_blind _ _ _ _ _) (by kernel_rfl) (by kernel_rfl) (by kernel_rfl) .slnil (Gt rfl rfl rfl h11) rfl rfl (.move rfl rfl) ?_
        refine WH.take 12 rfl (Pf_blind _ _ _ _ _) (by kernel_rfl) (by kernel_rfl) (by kernel_rfl) .slnil (Gt rfl rfl rfl h11) rfl rfl (.sub rfl rfl rfl (by omega) (by omega)) ?_
        refine WH.take 13 rfl (Pf_blind _ _ _ _ _) (by kernel_rfl) (by kernel_rfl) (by kernel_rfl) .slnil (Gt rfl rfl rfl h11) rfl rfl (.ix rfl ST_23 rfl rfl (by omega) (by omega) (fun _ hw hn => (hw.slf0 hS).some_ hn)) ?_
        refine WH.take 14 rfl (Pf_blind _ _ _ _ _) (by kernel_rfl) (by kernel_rfl) (by kernel_rfl) .slnil (Gt rfl rfl rfl h11) rfl rfl (.fe rfl FA_42_0 rfl) ?_
        refine WH.take 15 rfl (Pf_blind _ _ _ _ _) (by kernel_rfl) (by kernel_rfl) (by kernel_rfl) .slnil (Gt rfl rfl rfl h11) rfl rfl (.loadK (vs := [_, _]) rfl AG_39 rfl (fun _ hw => Rd.el (off := 0) (k := 2) (rdN (hw.slf0 hS) (by omega) (by omega)) rfl)) ?_
        refine WH.take 16 rfl (Pf_blind _ _ _ _ _) (by kernel_rfl) (by kernel_rfl) (by kernel_rfl) .slnil (Gt rfl rfl rfl h11) rfl rfl (.move rfl rfl) ?_
        refine WH.take 17 rfl (Pf_blind _ _ _ _ _) (by kernel_rfl) (by kernel_rfl) (by kernel_rfl) .slnil (Gt rfl rfl rfl h11) rfl rfl (.move rfl rfl) ?_
        refine WH.take 18 rfl (Pf_blind _ _ _ _ _) (by kernel_rfl) (by kernel_rfl) (by kernel_rfl) .slnil (Gt rfl rfl rfl h11) rfl rfl (.ix rfl ST_23 rfl rfl (by omega) (by omega) (fun _ hw hn => (hw.slf0 hS).some_ hn)) ?_
        refine WH.take 19 rfl (Pf_blind _ _ _ _ _) (by kernel_rfl) (by kernel_rfl) (by kernel_rfl) .slnil (Gt rfl rfl rfl h11) rfl rfl (.fe rfl FA_42_0 rfl) ?_
        refine WH.take 20 rfl (Pf_blind _ _ _ _ _) (by kernel_rfl) (by kernel_rfl) (by kernel_rfl) .slnil (Gt rfl rfl rfl h11) rfl rfl (.loadK (vs := [_, _]) rfl AG_39 rfl (fun _ hw => Rd.el (off := 0) (k := 2) (rdN (hw.slf0 hS) (by omega) (by omega)) rfl)) ?_
        refine WH.dw 21 rfl (by kernel_rfl) (Gt rfl rfl rfl h11) rfl rfl (.callv (caps := []) rfl rfl rfl EN_129 (fun w hw => jbeforeF _ _ w)) ?_
        rintro _ _ ⟨rfl, rfl⟩
        refine ⟨.slnil, ?_⟩
        refine WH.take 22 rfl (Pf_blind _ _ _ _ _) (by kernel_rfl) (by kernel_rfl) (by kernel_rfl) .slnil (Gt rfl rfl rfl h11) rfl rfl (.not rfl rfl) ?_
        refine WH.take 23 rfl (Pf_blind _ _ _ _ _) (by kernel_rfl) (by kernel_rfl) (by kernel_rfl) .slnil (Gt rfl rfl rfl h7) rfl rfl (.pick_t rfl rfl h11 rfl) ?_
        refine WH.take 24 rfl (Pf_blind _ _ _ _ _) (by kernel_rfl) (by kernel_rfl) (by kernel_rfl) .slnil (G0 rfl) rfl rfl (.pick_f rfl rfl h7 rfl) ?_
        refine WH.done (by kernel_rfl) ?_
        refine WA.cond rfl (fun h16 => ?_) (fun h16 => ?_)
        · have f17 := h16
          try simp only [decide_eq_true_eq, decide_eq_false_iff_not, Bool.not_eq_true', Bool.not_eq_false', Int.not_lt, Int.not_le] at f17
          refine WA.seq ?_
          refine WA.region ?_
          refine WR.val (G0 rfl) rfl rfl (.assign rfl rfl) ?_
          refine WR.nil ?_
          exact WA.ret1 rfl rfl (List.nil_sublist _) ⟨by rw [storeOk_not (i := k) (by omega) (by simp_all [okAt] <;> omega)], rfl⟩
        · have f18 := h16
          try simp only [decide_eq_true_eq, decide_eq_false_iff_not, Bool.not_eq_true', Bool.not_eq_false', Int.not_lt, Int.not_le] at f18
          refine WA.skip ?_
          refine WA.mark ?_
          refine WA.region ?_
          refine WR.val (G0 rfl) rfl rfl (.move rfl rfl) ?_
          refine WR.val (G0 rfl) rfl rfl (.add rfl rfl rfl (by omega) (by omega)) ?_
          refine WR.val (G0 rfl) rfl rfl (.assign rfl rfl) ?_
          refine WR.nil ?_
          exact WA.roundK (k + 1) (.cons rfl (.nil _)) (.cons rfl (.nil _)) .slnil ⟨by omega, lt_snoc hd (by simp_all [okAt] <;> omega)⟩ (by omega)
      · have f19 := h11
        try simp only [decide_eq_true_eq, decide_eq_false_iff_not, Bool.not_eq_true', Bool.not_eq_false', Int.not_lt, Int.not_le] at f19
        refine WH.off 10 rfl (Pf_blind _ _ _ _ _) (by kernel_rfl) (by kernel_rfl) (by kernel_rfl) .slnil (Gf rfl rfl rfl h11) rfl rfl ?_
        refine WH.off 11 rfl (Pf_blind _ _ _ _ _) (by kernel_rfl) (by kernel_rfl) (by kernel_rfl) .slnil (Gf rfl rfl rfl h11) rfl rfl ?_
        refine WH.off 12 rfl (Pf_blind _ _ _ _ _) (by kernel_rfl) (by kernel_rfl) (by kernel_rfl) .slnil (Gf rfl rfl rfl h11) rfl rfl ?_
        refine WH.off 13 rfl (Pf_blind _ _ _ _ _) (by kernel_rfl) (by kernel_rfl) (by kernel_rfl) .slnil (Gf rfl rfl rfl h11) rfl rfl ?_
        refine WH.off 14 rfl (Pf_blind _ _ _ _ _) (by kernel_rfl) (by kernel_rfl) (by kernel_rfl) .slnil (Gf rfl rfl rfl h11) rfl rfl ?_
        refine WH.off 15 rfl (Pf_blind _ _ _ _ _) (by kernel_rfl) (by kernel_rfl) (by kernel_rfl) .slnil (Gf rfl rfl rfl h11) rfl rfl ?_
        refine WH.off 16 rfl (Pf_blind _ _ _ _ _) (by kernel_rfl) (by kernel_rfl) (by kernel_rfl) .slnil (Gf rfl rfl rfl h11) rfl rfl ?_
        refine WH.off 17 rfl (Pf_blind _ _ _ _ _) (by kernel_rfl) (by kernel_rfl) (by kernel_rfl) .slnil (Gf rfl rfl rfl h11) rfl rfl ?_
        refine WH.off 18 rfl (Pf_blind _ _ _ _ _) (by kernel_rfl) (by kernel_rfl) (by kernel_rfl) .slnil (Gf rfl rfl rfl h11) rfl rfl ?_
        refine WH.off 19 rfl (Pf_blind _ _ _ _ _) (by kernel_rfl) (by kernel_rfl) (by kernel_rfl) .slnil (Gf rfl rfl rfl h11) rfl rfl ?_
        refine WH.off 20 rfl (Pf_blind _ _ _ _ _) (by kernel_rfl) (by kernel_rfl) (by kernel_rfl) .slnil (Gf rfl rfl rfl h11) rfl rfl ?_
        refine WH.off 21 rfl (Pf_blind _ _ _ _ _) (by kernel_rfl) (by kernel_rfl) (by kernel_rfl) .slnil (Gf rfl rfl rfl h11) rfl rfl ?_
        refine WH.off 22 rfl (Pf_blind _ _ _ _ _) (by kernel_rfl) (by kernel_rfl) (by kernel_rfl) .slnil (Gf rfl rfl rfl h11) rfl rfl ?_
        refine WH.take 23 rfl (Pf_blind _ _ _ _ _) (by kernel_rfl) (by kernel_rfl) (by kernel_rfl) .slnil (Gt rfl rfl rfl h7) rfl rfl (.pick_f rfl rfl h11 rfl) ?_
        refine WH.take 24 rfl (Pf_blind _ _ _ _ _) (by kernel_rfl) (by kernel_rfl) (by kernel_rfl) .slnil (G0 rfl) rfl rfl (.pick_f rfl rfl h7 rfl) ?_
        refine WH.done (by kernel_rfl) ?_
        refine WA.cond_f rfl rfl ?_
        refine WA.skip ?_
        refine WA.mark ?_
        refine WA.region ?_
        refine WR.val (G0 rfl) rfl rfl (.move rfl rfl) ?_
        refine WR.val (G0 rfl) rfl rfl (.add rfl rfl rfl (by omega) (by omega)) ?_
        refine WR.val (G0 rfl) rfl rfl (.assign rfl rfl) ?_
        refine WR.nil ?_
        exact WA.roundK (k + 1) (.cons rfl (.nil _)) (.cons rfl (.nil _)) .slnil ⟨by omega, lt_snoc hd (by simp_all [okAt] <;> omega)⟩ (by omega)
  · have f20 := h2
    try simp only [decide_eq_true_eq, decide_eq_false_iff_not, Bool.not_eq_true', Bool.not_eq_false', Int.not_lt, Int.not_le] at f20
    refine WA.exit rfl ?_
    refine WA.seq ?_
    refine WA.region ?_
    refine WR.val (G0 rfl) rfl rfl (.assign rfl rfl) ?_
    refine WR.nil ?_
    exact WA.ret1 rfl rfl (List.nil_sublist _) ⟨by rw [storeOk_iff.2 (fun i hi => hd i (by omega))], rfl⟩

set_option maxRecDepth 20000 in
/-- redpencil/redpencilref14.Find -/
theorem jfindF (l : List Nd) (A : Option Addr) (cap : Nat) (w : World) (hS : SlN w A l) (hl : l.length ≤ 800000) (d : Dot) : Ct Tryz.prog 114 #[.slice A l.length cap, dv d] [] w (fun u hs => u = .int .i64 (fnd l d) ∧ hs = []) := by
  refine Ct.intro Tryz.func114 rfl Tryz.ntmps114 rfl ?_
  refine WA.seq ?_
  refine WA.region ?_
  refine WR.dw (G0 rfl) rfl rfl (.box (vs := [_, _]) rfl rfl rfl) ?_
  rintro _ _ ⟨b2, rfl, rfl⟩
  refine WR.val (G0 rfl) rfl rfl (.assign rfl rfl) ?_
  refine WR.nil ?_
  refine WA.seq ?_
  refine WA.seq ?_
  refine WA.region ?_
  refine WR.val (G0 rfl) rfl rfl (.assign rfl rfl) ?_
  refine WR.nil ?_
  refine WA.block ?_
  refine WA.loopK (γ := Nat) [(0, _), (3, _)] [_] (fun k => [(5, .int .i64 (k : Int))]) (fun k => []) (fun k => k ≤ l.length ∧ ∀ j : Nat, j < k → ¬ (gx l (j : Int)).d = d) (fun k => l.length - k) 0 (.cons rfl (.cons rfl (.nil _))) (.cons rfl (.nil _)) (.refl _) ⟨by omega, fun _ h => absurd h (by omega)⟩ ?_
  intro k hk
  obtain ⟨hk, hd⟩ := hk
  refine WA.seq ?_
  refine WA.seq ?_
  refine WA.region ?_
  refine WR.val (G0 rfl) rfl rfl (.move rfl rfl) ?_
  refine WR.val (G0 rfl) rfl rfl (.move rfl rfl) ?_
  refine WR.val (G0 rfl) rfl rfl (.len rfl ST_23.1 rfl) ?_
  refine WR.val (G0 rfl) rfl rfl (.lss rfl rfl rfl) ?_
  refine WR.nil ?_
  refine WA.cond rfl (fun h4 => ?_) (fun h4 => ?_)
  · have f5 := h4
    try simp only [decide_eq_true_eq, decide_eq_false_iff_not, Bool.not_eq_true', Bool.not_eq_false', Int.not_lt, Int.not_le] at f5
    refine WA.skip ?_
    refine WA.seq ?_
    refine WA.block ?_
    refine WA.seq ?_
    refine WA.draws0 follows ?_
    refine WH.take 0 rfl (Pf_blind _ _ _ _ _) (by kernel_rfl) (by kernel_rfl) (by kernel_rfl) (.refl _) (G0 rfl) rfl rfl (.move rfl rfl) ?_
    refine WH.take 1 rfl (Pf_blind _ _ _ _ _) (by kernel_rfl) (by kernel_rfl) (by kernel_rfl) (.refl _) (G0 rfl) rfl rfl (.move rfl rfl) ?_
    refine WH.take 2 rfl (Pf_blind _ _ _ _ _) (by kernel_rfl) (by kernel_rfl) (by kernel_rfl) (.refl _) (G0 rfl) rfl rfl (.ix rfl ST_23 rfl rfl (by omega) (by omega) (fun _ hw hn => (hw.slf0 hS).some_ hn)) ?_
    refine WH.take 3 rfl (Pf_blind _ _ _ _ _) (by kernel_rfl) (by kernel_rfl) (by kernel_rfl) (.refl _) (G0 rfl) rfl rfl (.fe rfl FA_42_0 rfl) ?_
    refine WH.take 4 rfl (Pf_blind _ _ _ _ _) (by kernel_rfl) (by kernel_rfl) (by kernel_rfl) (.refl _) (G0 rfl) rfl rfl (.loadK (vs := [_, _]) rfl AG_39 rfl (fun _ hw => Rd.el (off := 0) (k := 2) (rdN (hw.slf0 hS) (by omega) (by omega)) rfl)) ?_
    refine WH.take 5 rfl (Pf_blind _ _ _ _ _) (by kernel_rfl) (by kernel_rfl) (by kernel_rfl) (.refl _) (G0 rfl) rfl rfl (.loadK (vs := [_, _]) rfl AG_39 rfl (fun _ hw => hw.rd_blk (k := 2) 0 rfl rfl)) ?_
    refine WH.take 6 rfl (Pf_blind _ _ _ _ _) (by kernel_rfl) (by kernel_rfl) (by kernel_rfl) (.refl _) (G0 rfl) rfl rfl (.bin rfl rfl rfl EQT_eql_39) ?_
    refine WH.done (by kernel_rfl) ?_
    refine WA.cond rfl (fun h7 => ?_) (fun h7 => ?_)
    · have f8 := h7
      try simp only [decide_eq_true_eq, decide_eq_false_iff_not, Bool.not_eq_true', Bool.not_eq_false', Int.not_lt, Int.not_le] at f8
      refine WA.seq ?_
      refine WA.region ?_
      refine WR.val (G0 rfl) rfl rfl (.move rfl rfl) ?_
      refine WR.val (G0 rfl) rfl rfl (.assign rfl rfl) ?_
      refine WR.nil ?_
      exact WA.ret1 rfl rfl (List.nil_sublist _) ⟨by rw [fnd_take (k := k) (by omega) hd (by assumption)], rfl⟩
    · have f9 := h7
      try simp only [decide_eq_true_eq, decide_eq_false_iff_not, Bool.not_eq_true', Bool.not_eq_false', Int.not_lt, Int.not_le] at f9
      refine WA.skip ?_
      refine WA.mark ?_
      refine WA.region ?_
      refine WR.val (G0 rfl) rfl rfl (.move rfl rfl) ?_
      refine WR.val (G0 rfl) rfl rfl (.add rfl rfl rfl (by omega) (by omega)) ?_
      refine WR.val (G0 rfl) rfl rfl (.assign rfl rfl) ?_
      refine WR.nil ?_
      exact WA.roundK (k + 1) (.cons rfl (.cons rfl (.nil _))) (.cons rfl (.nil _)) (.refl _) ⟨by omega, lt_snoc hd (by assumption)⟩ (by omega)
  · have f10 := h4
    try simp only [decide_eq_true_eq, decide_eq_false_iff_not, Bool.not_eq_true', Bool.not_eq_false', Int.not_lt, Int.not_le] at f10
    refine WA.exit rfl ?_
    refine WA.seq ?_
    refine WA.region ?_
    refine WR.val (G0 rfl) rfl rfl (.assign rfl rfl) ?_
    refine WR.nil ?_
    exact WA.ret1 rfl rfl (List.nil_sublist _) ⟨by rw [fnd_none (fun j hj => hd j (by omega))], rfl⟩

set_option maxRecDepth 20000 in
/-- redpencil/redpencilref14.Agree -/
theorem jagreeF (l : List Nd) (A : Option Addr) (cap : Nat) (w : World) (hS : SlN w A l) (hl : l.length ≤ 800000) (m : List Nd) (A' : Option Addr) (cap' : Nat) (hM : SlN w A' m) (hm : m.length ≤ 800000) : Ct Tryz.prog 55 #[.slice A l.length cap, .slice A' m.length cap'] [] w (fun u hs => u = .bool (agreeJ l m) ∧ hs = []) := by
  refine Ct.intro Tryz.func55 rfl Tryz.ntmps55 rfl ?_
  refine WA.seq ?_
  refine WA.region ?_
  refine WR.val (G0 rfl) rfl rfl (.assign rfl rfl) ?_
  refine WR.nil ?_
  refine WA.seq ?_
  refine WA.seq ?_
  refine WA.region ?_
  refine WR.val (G0 rfl) rfl rfl (.assign rfl rfl) ?_
  refine WR.nil ?_
  refine WA.block ?_
  refine WA.loopK (γ := Nat) [(0, _), (1, _)] [] (fun k => [(5, .int .i64 (k : Int))]) (fun k => []) (fun k => k ≤ l.length ∧ (l.take k).all (agP m) = true) (fun k => l.length - k) 0 (.cons rfl (.cons rfl (.nil _))) (.cons rfl (.nil _)) .slnil ⟨by omega, by simp⟩ ?_
  intro k hk
  obtain ⟨hk, hd⟩ := hk
  refine WA.seq ?_
  refine WA.seq ?_
  refine WA.region ?_
  refine WR.val (G0 rfl) rfl rfl (.move rfl rfl) ?_
  refine WR.val (G0 rfl) rfl rfl (.move rfl rfl) ?_
  refine WR.val (G0 rfl) rfl rfl (.len rfl ST_23.1 rfl) ?_
  refine WR.val (G0 rfl) rfl rfl (.lss rfl rfl rfl) ?_
  refine WR.nil ?_
  refine WA.cond rfl (fun h2 => ?_) (fun h2 => ?_)
  · have f3 := h2
    try simp only [decide_eq_true_eq, decide_eq_false_iff_not, Bool.not_eq_true', Bool.not_eq_false', Int.not_lt, Int.not_le] at f3
    refine WA.skip ?_
    refine WA.seq ?_
    refine WA.block ?_
    refine WA.seq ?_
    refine WA.region ?_
    refine WR.val (G0 rfl) rfl rfl (.move rfl rfl) ?_
    refine WR.val (G0 rfl) rfl rfl (.move rfl rfl) ?_
    refine WR.val (G0 rfl) rfl rfl (.move rfl rfl) ?_
    refine WR.val (G0 rfl) rfl rfl (.ix rfl ST_23 rfl rfl (by omega) (by omega) (fun _ hw hn => (hw.slf0 hS).some_ hn)) ?_
    refine WR.val (G0 rfl) rfl rfl (.fe rfl FA_42_0 rfl) ?_
    refine WR.val (G0 rfl) rfl rfl (.loadK (vs := [_, _]) rfl AG_39 rfl (fun _ hw => Rd.el (off := 0) (k := 2) (rdN (hw.slf0 hS) (by omega) (by omega)) rfl)) ?_
    refine WR.dw (G0 rfl) rfl rfl (.callv (caps := []) rfl rfl rfl EN_114 (fun w hw => jfindF _ _ _ _ (hw.slf0 hM) (by first | omega | (simp; omega)) _)) ?_
    rintro _ _ ⟨rfl, rfl⟩
    refine WR.val (G0 rfl) rfl rfl (.assign rfl rfl) ?_
    refine WR.nil ?_
    refine WA.seq ?_
    refine WA.region ?_
    refine WR.val (G0 rfl) rfl rfl (.move rfl rfl) ?_
    refine WR.val (G0 rfl) rfl rfl (.geq rfl rfl rfl) ?_
    refine WR.nil ?_
    refine WA.cond rfl (fun h5 => ?_) (fun h5 => ?_)
    · have f6 := h5
      try simp only [decide_eq_true_eq, decide_eq_false_iff_not, Bool.not_eq_true', Bool.not_eq_false', Int.not_lt, Int.not_le] at f6
      refine WA.seq ?_
      have hfb := fnd_bd m (gx l (k : Int)).d
      refine WA.draws0 follows ?_
      refine WH.take 0 rfl (Pf_blind _ _ _ _ _) (by kernel_rfl) (by kernel_rfl) (by kernel_rfl) .slnil (G0 rfl) rfl rfl (.move rfl rfl) ?_
      refine WH.take 1 rfl (Pf_blind _ _ _ _ _) (by kernel_rfl) (by kernel_rfl) (by kernel_rfl) .slnil (G0 rfl) rfl rfl (.move rfl rfl) ?_
      refine WH.take 2 rfl (Pf_blind _ _ _ _ _) (by kernel_rfl) (by kernel_rfl) (by kernel_rfl) .slnil (G0 rfl) rfl rfl (.ix rfl ST_23 rfl rfl (by omega) (by omega) (fun _ hw hn => (hw.slf0 hS).some_ hn)) ?_
      refine WH.take 3 rfl (Pf_blind _ _ _ _ _) (by kernel_rfl) (by kernel_rfl) (by kernel_rfl) .slnil (G0 rfl) rfl rfl (.loadK (vs := [_, _, _, _, _, _]) rfl AG_42 rfl (fun _ hw => rdN (hw.slf0 hS) (by omega) (by omega))) ?_
      refine WH.take 4 rfl (Pf_blind _ _ _ _ _) (by kernel_rfl) (by kernel_rfl) (by kernel_rfl) .slnil (G0 rfl) rfl rfl (.move rfl rfl) ?_
      refine WH.take 5 rfl (Pf_blind _ _ _ _ _) (by kernel_rfl) (by kernel_rfl) (by kernel_rfl) .slnil (G0 rfl) rfl rfl (.move rfl rfl) ?_
      refine WH.take 6 rfl (Pf_blind _ _ _ _ _) (by kernel_rfl) (by kernel_rfl) (by kernel_rfl) .slnil (G0 rfl) rfl rfl (.ix rfl ST_23 rfl rfl (by omega) (by omega) (fun _ hw hn => (hw.slf0 hM).some_ hn)) ?_
      refine WH.take 7 rfl (Pf_blind _ _ _ _ _) (by kernel_rfl) (by kernel_rfl) (by kernel_rfl) .slnil (G0 rfl) rfl rfl (.loadK (vs := [_, _, _, _, _, _]) rfl AG_42 rfl (fun _ hw => rdN (hw.slf0 hM) (by omega) (by omega))) ?_
      refine WH.two (i := 8) (j := 12) (by kernel_rfl) ?_ ?_
      · refine WO.dw 8 rfl (G0 rfl) rfl rfl (.callv (caps := []) rfl rfl rfl EN_130 (fun w hw => jmergeF _ _ w)) ?_
        rintro _ _ ⟨rfl, rfl⟩
        refine ⟨.slnil, ?_⟩
        refine WH.take 9 rfl (Pf_blind _ _ _ _ _) (by kernel_rfl) (by kernel_rfl) (by kernel_rfl) .slnil (G0 rfl) rfl rfl (.move rfl rfl) ?_
        refine WH.take 10 rfl (Pf_blind _ _ _ _ _) (by kernel_rfl) (by kernel_rfl) (by kernel_rfl) .slnil (G0 rfl) rfl rfl (.extract (vs := [_, _]) rfl rfl rfl) ?_
        refine WH.take 11 rfl (Pf_blind _ _ _ _ _) (by kernel_rfl) (by kernel_rfl) (by kernel_rfl) .slnil (G0 rfl) rfl rfl (.extract (vs := [_, _]) rfl rfl rfl) ?_
        refine WH.dw 12 rfl (by kernel_rfl) (G0 rfl) rfl rfl (.alloc (vs := [_, _, _, _, _, _]) rfl ZT_42 rfl) ?_
        rintro _ _ ⟨b12, rfl, rfl⟩
        refine ⟨(.cons _ .slnil), ?_⟩
        refine WH.dw0 13 rfl (by kernel_rfl) (G0 rfl) rfl (.store (i := 0) rfl AG_42.2 rfl rfl [_, _, _, _, _, _] rfl rfl (by intro u hu; simp at hu; rcases hu with rfl | rfl | rfl | rfl | rfl | rfl <;> rfl) rfl rfl) ?_
        rintro _ _ ⟨rfl, rfl⟩
        refine ⟨(.cons _ .slnil), ?_⟩
        refine WH.take 14 rfl (Pf_blind _ _ _ _ _) (by kernel_rfl) (by kernel_rfl) (by kernel_rfl) (.cons _ .slnil) (G0 rfl) rfl rfl (.assign rfl rfl) ?_
        refine WH.done (by kernel_rfl) ?_
        refine WA.seq ?_
        refine WA.region ?_
        refine WR.val (G0 rfl) rfl rfl (.move rfl rfl) ?_
        refine WR.val (G0 rfl) rfl rfl (.not rfl rfl) ?_
        refine WR.nil ?_
        refine WA.cond rfl (fun h14 => ?_) (fun h14 => ?_)
        · have f15 := h14
          try simp only [decide_eq_true_eq, decide_eq_false_iff_not, Bool.not_eq_true', Bool.not_eq_false', Int.not_lt, Int.not_le] at f15
          refine WA.seq ?_
          refine WA.region ?_
          refine WR.val (G0 rfl) rfl rfl (.assign rfl rfl) ?_
          refine WR.nil ?_
          exact WA.ret1 rfl rfl (List.nil_sublist _) ⟨by rw [agreeJ, all_false (k := k) (by omega) (by simp_all [agP])], rfl⟩
        · have f16 := h14
          try simp only [decide_eq_true_eq, decide_eq_false_iff_not, Bool.not_eq_true', Bool.not_eq_false', Int.not_lt, Int.not_le] at f16
          refine WA.skip ?_
          refine WA.mark ?_
          refine WA.region ?_
          refine WR.val (G0 rfl) rfl rfl (.move rfl rfl) ?_
          refine WR.val (G0 rfl) rfl rfl (.add rfl rfl rfl (by omega) (by omega)) ?_
          refine WR.val (G0 rfl) rfl rfl (.assign rfl rfl) ?_
          refine WR.nil ?_
          exact WA.roundK (k + 1) (.cons rfl (.cons rfl (.nil _))) (.cons rfl (.nil _)) (.cons _ .slnil) ⟨by omega, by rw [all_take _ l (by omega), hd]; simp_all [agP] <;> omega⟩ (by omega)
      · refine WO.dw 12 rfl (G0 rfl) rfl rfl (.alloc (vs := [_, _, _, _, _, _]) rfl ZT_42 rfl) ?_
        rintro _ _ ⟨b18, rfl, rfl⟩
        refine ⟨(.cons _ .slnil), ?_⟩
        refine WH.dw 8 rfl (by kernel_rfl) (G0 rfl) rfl rfl (.callv (caps := []) rfl rfl rfl EN_130 (fun w hw => jmergeF _ _ w)) ?_
        rintro _ _ ⟨rfl, rfl⟩
        refine ⟨(.cons _ .slnil), ?_⟩
        refine WH.take 9 rfl (Pf_blind _ _ _ _ _) (by kernel_rfl) (by kernel_rfl) (by kernel_rfl) (.cons _ .slnil) (G0 rfl) rfl rfl (.move rfl rfl) ?_
        refine WH.take 10 rfl (Pf_blind _ _ _ _ _) (by kernel_rfl) (by kernel_rfl) (by kernel_rfl) (.cons _ .slnil) (G0 rfl) rfl rfl (.extract (vs := [_, _]) rfl rfl rfl) ?_
        refine WH.take 11 rfl (Pf_blind _ _ _ _ _) (by kernel_rfl) (by kernel_rfl) (by kernel_rfl) (.cons _ .slnil) (G0 rfl) rfl rfl (.extract (vs := [_, _]) rfl rfl rfl) ?_
        refine WH.dw0 13 rfl (by kernel_rfl) (G0 rfl) rfl (.store (i := 0) rfl AG_42.2 rfl rfl [_, _, _, _, _, _] rfl rfl (by intro u hu; simp at hu; rcases hu with rfl | rfl | rfl | rfl | rfl | rfl <;> rfl) rfl rfl) ?_
        rintro _ _ ⟨rfl, rfl⟩
        refine ⟨(.cons _ .slnil), ?_⟩
        refine WH.take 14 rfl (Pf_blind _ _ _ _ _) (by kernel_rfl) (by kernel_rfl) (by kernel_rfl) (.cons _ .slnil) (G0 rfl) rfl rfl (.assign rfl rfl) ?_
        refine WH.done (by kernel_rfl) ?_
        refine WA.seq ?_
        refine WA.region ?_
        refine WR.val (G0 rfl) rfl rfl (.move rfl rfl) ?_
        refine WR.val (G0 rfl) rfl rfl (.not rfl rfl) ?_
        refine WR.nil ?_
        refine WA.cond rfl (fun h20 => ?_) (fun h20 => ?_)
        · have f21 := h20
          try simp only [decide_eq_true_eq, decide_eq_false_iff_not, Bool.not_eq_true', Bool.not_eq_false', Int.not_lt, Int.not_le] at f21
          refine WA.seq ?_
          refine WA.region ?_
          refine WR.val (G0 rfl) rfl rfl (.assign rfl rfl) ?_
          refine WR.nil ?_
          exact WA.ret1 rfl rfl (List.nil_sublist _) ⟨by rw [agreeJ, all_false (k := k) (by omega) (by simp_all [agP])], rfl⟩
        · have f22 := h20
          try simp only [decide_eq_true_eq, decide_eq_false_iff_not, Bool.not_eq_true', Bool.not_eq_false', Int.not_lt, Int.not_le] at f22
          refine WA.skip ?_
          refine WA.mark ?_
          refine WA.region ?_
          refine WR.val (G0 rfl) rfl rfl (.move rfl rfl) ?_
          refine WR.val (G0 rfl) rfl rfl (.add rfl rfl rfl (by omega) (by omega)) ?_
          refine WR.val (G0 rfl) rfl rfl (.assign rfl rfl) ?_
          refine WR.nil ?_
          exact WA.roundK (k + 1) (.cons rfl (.cons rfl (.nil _))) (.cons rfl (.nil _)) (.cons _ .slnil) ⟨by omega, by rw [all_take _ l (by omega), hd]; simp_all [agP] <;> omega⟩ (by omega)
    · have f23 := h5
      try simp only [decide_eq_true_eq, decide_eq_false_iff_not, Bool.not_eq_true', Bool.not_eq_false', Int.not_lt, Int.not_le] at f23
      refine WA.skip ?_
      refine WA.mark ?_
      refine WA.region ?_
      refine WR.val (G0 rfl) rfl rfl (.move rfl rfl) ?_
      refine WR.val (G0 rfl) rfl rfl (.add rfl rfl rfl (by omega) (by omega)) ?_
      refine WR.val (G0 rfl) rfl rfl (.assign rfl rfl) ?_
      refine WR.nil ?_
      exact WA.roundK (k + 1) (.cons rfl (.cons rfl (.nil _))) (.cons rfl (.nil _)) .slnil ⟨by omega, by rw [all_take _ l (by omega), hd]; simp_all [agP] <;> omega⟩ (by omega)
  · have f24 := h2
    try simp only [decide_eq_true_eq, decide_eq_false_iff_not, Bool.not_eq_true', Bool.not_eq_false', Int.not_lt, Int.not_le] at f24
    refine WA.exit rfl ?_
    refine WA.seq ?_
    refine WA.region ?_
    refine WR.val (G0 rfl) rfl rfl (.assign rfl rfl) ?_
    refine WR.nil ?_
    exact WA.ret1 rfl rfl (List.nil_sublist _) ⟨by rw [List.take_of_length_le (by omega)] at hd; rw [agreeJ, hd], rfl⟩

set_option maxRecDepth 20000 in
/-- redpencil/redpencilref14.put -/
theorem jputF (l : List Nd) (A : Option Addr) (cap : Nat) (w : World) (hS : SlN w A l) (hl : l.length ≤ 800000) (n : Nd) (hc : l.length ≤ cap) : Ct Tryz.prog 131 #[.slice A l.length cap, nv n] [] w (fun u hs => ∃ B c, u = .slice B ((pput l n)).length c ∧ hs = [En.row B ((pput l n)).length c 42 6 (((pput l n)).flatMap nc)]) := by
  refine Ct.intro Tryz.func131 rfl Tryz.ntmps131 rfl ?_
  refine WA.seq ?_
  refine WA.region ?_
  refine WR.dw (G0 rfl) rfl rfl (.box (vs := [_, _, _, _, _, _]) rfl rfl rfl) ?_
  rintro _ _ ⟨b2, rfl, rfl⟩
  refine WR.val (G0 rfl) rfl rfl (.assign rfl rfl) ?_
  refine WR.nil ?_
  refine WA.seq ?_
  refine WA.region ?_
  refine WR.val (G0 rfl) rfl rfl (.assign rfl rfl) ?_
  refine WR.nil ?_
  refine WA.seq ?_
  refine WA.block ?_
  refine WA.loopK (γ := Nat) [(0, _), (3, _), (4, _)] [_] (fun k => [(5, .int .i64 (k : Int))]) (fun k => []) (fun k => k ≤ l.length ∧ ∀ j : Nat, j < k → befD n.d (gx l (j : Int)) = true) (fun k => l.length - k) 0 (.cons rfl (.cons rfl (.cons rfl (.nil _)))) (.cons rfl (.nil _)) (.refl _) ⟨by omega, fun _ h => absurd h (by omega)⟩ ?_
  intro k hk
  obtain ⟨hk, hd⟩ := hk
  refine WA.seq ?_
  refine WA.seq ?_
  refine WA.draws0 follows ?_
  refine WH.take 0 rfl (Pf_blind _ _ _ _ _) (by kernel_rfl) (by kernel_rfl) (by kernel_rfl) (.refl _) (G0 rfl) rfl rfl (.move rfl rfl) ?_
  refine WH.take 1 rfl (Pf_blind _ _ _ _ _) (by kernel_rfl) (by kernel_rfl) (by kernel_rfl) (.refl _) (G0 rfl) rfl rfl (.move rfl rfl) ?_
  refine WH.take 2 rfl (Pf_blind _ _ _ _ _) (by kernel_rfl) (by kernel_rfl) (by kernel_rfl) (.refl _) (G0 rfl) rfl rfl (.len rfl ST_23.1 rfl) ?_
  refine WH.take 3 rfl (Pf_blind _ _ _ _ _) (by kernel_rfl) (by kernel_rfl) (by kernel_rfl) (.refl _) (G0 rfl) rfl rfl (.lss rfl rfl rfl) ?_
  refine WH.take 4 rfl (Pf_blind _ _ _ _ _) (by kernel_rfl) (by kernel_rfl) (by kernel_rfl) (.refl _) (G0 rfl) rfl rfl (.move rfl rfl) ?_
  refine WH.split (d := 11) rfl (fun h4 => ?_) (fun h4 => ?_)
  · have f5 := h4
    try simp only [decide_eq_true_eq, decide_eq_false_iff_not, Bool.not_eq_true', Bool.not_eq_false', Int.not_lt, Int.not_le] at f5
    refine WH.take 5 rfl (Pf_blind _ _ _ _ _) (by kernel_rfl) (by kernel_rfl) (by kernel_rfl) (.refl _) (Gt rfl rfl rfl h4) rfl rfl (.move rfl rfl) ?_
    refine WH.take 6 rfl (Pf_blind _ _ _ _ _) (by kernel_rfl) (by kernel_rfl) (by kernel_rfl) (.refl _) (Gt rfl rfl rfl h4) rfl rfl (.move rfl rfl) ?_
    refine WH.take 7 rfl (Pf_blind _ _ _ _ _) (by kernel_rfl) (by kernel_rfl) (by kernel_rfl) (.refl _) (Gt rfl rfl rfl h4) rfl rfl (.ix rfl ST_23 rfl rfl (by omega) (by omega) (fun _ hw hn => (hw.slf0 hS).some_ hn)) ?_
    refine WH.take 8 rfl (Pf_blind _ _ _ _ _) (by kernel_rfl) (by kernel_rfl) (by kernel_rfl) (.refl _) (Gt rfl rfl rfl h4) rfl rfl (.fe rfl FA_42_0 rfl) ?_
    refine WH.take 9 rfl (Pf_blind _ _ _ _ _) (by kernel_rfl) (by kernel_rfl) (by kernel_rfl) (.refl _) (Gt rfl rfl rfl h4) rfl rfl (.loadK (vs := [_, _]) rfl AG_39 rfl (fun _ hw => Rd.el (off := 0) (k := 2) (rdN (hw.slf0 hS) (by omega) (by omega)) rfl)) ?_
    refine WH.take 10 rfl (Pf_blind _ _ _ _ _) (by kernel_rfl) (by kernel_rfl) (by kernel_rfl) (.refl _) (Gt rfl rfl rfl h4) rfl rfl (.fa rfl FA_42_0 rfl) ?_
    refine WH.take 11 rfl (Pf_blind _ _ _ _ _) (by kernel_rfl) (by kernel_rfl) (by kernel_rfl) (.refl _) (Gt rfl rfl rfl h4) rfl rfl (.loadK (vs := [_, _]) rfl AG_39 rfl (fun _ hw => hw.rd_blk (k := 2) 0 rfl rfl)) ?_
    refine WH.dw 12 rfl (by kernel_rfl) (Gt rfl rfl rfl h4) rfl rfl (.callv (caps := []) rfl rfl rfl EN_129 (fun w hw => jbeforeF _ _ w)) ?_
    rintro _ _ ⟨rfl, rfl⟩
    refine ⟨(.refl _), ?_⟩
    refine WH.take 13 rfl (Pf_blind _ _ _ _ _) (by kernel_rfl) (by kernel_rfl) (by kernel_rfl) (.refl _) (G0 rfl) rfl rfl (.pick_t rfl rfl h4 rfl) ?_
    refine WH.done (by kernel_rfl) ?_
    refine WA.cond rfl (fun h8 => ?_) (fun h8 => ?_)
    · have f9 := h8
      try simp only [decide_eq_true_eq, decide_eq_false_iff_not, Bool.not_eq_true', Bool.not_eq_false', Int.not_lt, Int.not_le] at f9
      refine WA.skip ?_
      refine WA.block ?_
      refine WA.region ?_
      refine WR.val (G0 rfl) rfl rfl (.move rfl rfl) ?_
      refine WR.val (G0 rfl) rfl rfl (.add rfl rfl rfl (by omega) (by omega)) ?_
      refine WR.val (G0 rfl) rfl rfl (.assign rfl rfl) ?_
      refine WR.nil ?_
      refine WA.mark ?_
      exact WA.roundK (k + 1) (.cons rfl (.cons rfl (.cons rfl (.nil _)))) (.cons rfl (.nil _)) (.refl _) ⟨by omega, lt_snoc hd (by simp_all [befD])⟩ (by omega)
    · have f10 := h8
      try simp only [decide_eq_true_eq, decide_eq_false_iff_not, Bool.not_eq_true', Bool.not_eq_false', Int.not_lt, Int.not_le] at f10
      refine WA.exit rfl ?_
      refine WA.seq ?_
      obtain ⟨htw, hdw⟩ := tw_take (p := befD n.d) hk hd (fun hlt => by simp_all [befD] <;> omega)
      have hpl := pput_len l n
      refine WA.draws0 follows ?_
      refine WH.take 0 rfl (Pf_blind _ _ _ _ _) (by kernel_rfl) (by kernel_rfl) (by kernel_rfl) (.refl _) (G0 rfl) rfl rfl (.loadK (vs := [_, _, _, _, _, _]) rfl AG_42 rfl (fun _ hw => hw.rd_blk (k := 6) 0 rfl rfl)) ?_
      refine WH.take 2 rfl (Pf_blind _ _ _ _ _) (by kernel_rfl) (by kernel_rfl) (by kernel_rfl) (.refl _) (G0 rfl) rfl rfl (.move rfl rfl) ?_
      refine WH.take 3 rfl (Pf_blind _ _ _ _ _) (by kernel_rfl) (by kernel_rfl) (by kernel_rfl) (.refl _) (G0 rfl) rfl rfl (.move rfl rfl) ?_
      refine WH.take 4 rfl (Pf_blind _ _ _ _ _) (by kernel_rfl) (by kernel_rfl) (by kernel_rfl) (.refl _) (G0 rfl) rfl rfl (.slice_l rfl ST_23 rfl rfl (by omega) (by omega)) ?_
      refine WH.dw 1 rfl (by kernel_rfl) (G0 rfl) rfl rfl (.buildSlice (k := 6) (e := 42) (vs := [_, _, _, _, _, _]) rfl rfl rfl (fun _ => by kernel_rfl) rfl) ?_
      rintro _ _ ⟨b20, rfl, rfl⟩
      refine ⟨(.cons _ (.refl _)), ?_⟩
      refine WH.asrow (k := 6) 0 1 rfl rfl (by simp [maxLen]) ?_
      refine WH.dw 5 rfl (by kernel_rfl) (G0 rfl) rfl rfl (.append 0 rfl ST_23.1 ZT_42 rfl (by decide) rfl rfl rfl (fun _ hw => slN_drop (hw.slf0 hS) (k := k) (by omega) hc) (one_flat one_nc _) (by omega) (by omega)) ?_
      rintro _ _ ⟨A23, c24, rfl, rfl⟩
      refine ⟨(.cons _ (.refl _)), ?_⟩
      refine WH.take 6 rfl (Pf_blind _ _ _ _ _) (by kernel_rfl) (by kernel_rfl) (by kernel_rfl) (.cons _ (.refl _)) (G0 rfl) rfl rfl (.assign rfl rfl) ?_
      refine WH.done (by kernel_rfl) ?_
      refine WA.seq ?_
      refine WA.roweq 0 rfl _ ((n :: l.drop k).flatMap nc) rfl rfl ?_
      refine WA.region ?_
      refine WR.val (G0 rfl) rfl rfl (.move rfl rfl) ?_
      refine WR.val (G0 rfl) rfl rfl (.move rfl rfl) ?_
      refine WR.val (G0 rfl) rfl rfl (.slice_h rfl ST_23 rfl rfl (by omega) (by omega)) ?_
      refine WR.nilrow 42 6 ?_
      refine WR.dw (G0 rfl) rfl rfl (.append 0 rfl ST_23.1 ZT_42 rfl (by decide) rfl rfl rfl (fun _ hw => slN_pre (hw.slf0 hS) (k := k) (by omega)) (one_flat one_nc _) (by omega) (by omega)) ?_
      rintro _ _ ⟨A26, c27, rfl, rfl⟩
      refine WR.val (G0 rfl) rfl rfl (.move rfl rfl) ?_
      refine WR.dw (G0 rfl) rfl rfl (.append 0 rfl ST_23.1 ZT_42 rfl (by decide) rfl rfl rfl (fun _ hw => hw.slf_row 1 rfl) (one_flat one_nc _) (by omega) (by omega)) ?_
      rintro _ _ ⟨A28, c29, rfl, rfl⟩
      refine WR.val (G0 rfl) rfl rfl (.assign rfl rfl) ?_
      refine WR.nil ?_
      refine WA.roweq 0 rfl ((pput l n)).length (((pput l n)).flatMap nc) (by rw [hpl]; omega) (by rw [pput, ← htw, ← hdw, List.flatMap_append]; rfl) ?_
      exact WA.ret1 rfl rfl (.cons_cons _ (.cons _ (.cons _ .slnil))) ⟨_, _, congrArg (fun q : Nat => Value.slice _ q _) (by rw [hpl]; omega), rfl⟩
  · have f30 := h4
    try simp only [decide_eq_true_eq, decide_eq_false_iff_not, Bool.not_eq_true', Bool.not_eq_false', Int.not_lt, Int.not_le] at f30
    refine WH.off 5 rfl (Pf_blind _ _ _ _ _) (by kernel_rfl) (by kernel_rfl) (by kernel_rfl) (.refl _) (Gf rfl rfl rfl h4) rfl rfl ?_
    refine WH.off 6 rfl (Pf_blind _ _ _ _ _) (by kernel_rfl) (by kernel_rfl) (by kernel_rfl) (.refl _) (Gf rfl rfl rfl h4) rfl rfl ?_
    refine WH.off 7 rfl (Pf_blind _ _ _ _ _) (by kernel_rfl) (by kernel_rfl) (by kernel_rfl) (.refl _) (Gf rfl rfl rfl h4) rfl rfl ?_
    refine WH.off 8 rfl (Pf_blind _ _ _ _ _) (by kernel_rfl) (by kernel_rfl) (by kernel_rfl) (.refl _) (Gf rfl rfl rfl h4) rfl rfl ?_
    refine WH.off 9 rfl (Pf_blind _ _ _ _ _) (by kernel_rfl) (by kernel_rfl) (by kernel_rfl) (.refl _) (Gf rfl rfl rfl h4) rfl rfl ?_
    refine WH.off 10 rfl (Pf_blind _ _ _ _ _) (by kernel_rfl) (by kernel_rfl) (by kernel_rfl) (.refl _) (Gf rfl rfl rfl h4) rfl rfl ?_
    refine WH.off 11 rfl (Pf_blind _ _ _ _ _) (by kernel_rfl) (by kernel_rfl) (by kernel_rfl) (.refl _) (Gf rfl rfl rfl h4) rfl rfl ?_
    refine WH.off 12 rfl (Pf_blind _ _ _ _ _) (by kernel_rfl) (by kernel_rfl) (by kernel_rfl) (.refl _) (Gf rfl rfl rfl h4) rfl rfl ?_
    refine WH.take 13 rfl (Pf_blind _ _ _ _ _) (by kernel_rfl) (by kernel_rfl) (by kernel_rfl) (.refl _) (G0 rfl) rfl rfl (.pick_f rfl rfl h4 rfl) ?_
    refine WH.done (by kernel_rfl) ?_
    refine WA.cond_f rfl rfl ?_
    refine WA.exit rfl ?_
    refine WA.seq ?_
    obtain ⟨htw, hdw⟩ := tw_take (p := befD n.d) hk hd (fun hlt => by simp_all [befD] <;> omega)
    have hpl := pput_len l n
    refine WA.draws0 follows ?_
    refine WH.take 0 rfl (Pf_blind _ _ _ _ _) (by kernel_rfl) (by kernel_rfl) (by kernel_rfl) (.refl _) (G0 rfl) rfl rfl (.loadK (vs := [_, _, _, _, _, _]) rfl AG_42 rfl (fun _ hw => hw.rd_blk (k := 6) 0 rfl rfl)) ?_
    refine WH.take 2 rfl (Pf_blind _ _ _ _ _) (by kernel_rfl) (by kernel_rfl) (by kernel_rfl) (.refl _) (G0 rfl) rfl rfl (.move rfl rfl) ?_
    refine WH.take 3 rfl (Pf_blind _ _ _ _ _) (by kernel_rfl) (by kernel_rfl) (by kernel_rfl) (.refl _) (G0 rfl) rfl rfl (.move rfl rfl) ?_
    refine WH.take 4 rfl (Pf_blind _ _ _ _ _) (by kernel_rfl) (by kernel_rfl) (by kernel_rfl) (.refl _) (G0 rfl) rfl rfl (.slice_l rfl ST_23 rfl rfl (by omega) (by omega)) ?_
    refine WH.dw 1 rfl (by kernel_rfl) (G0 rfl) rfl rfl (.buildSlice (k := 6) (e := 42) (vs := [_, _, _, _, _, _]) rfl rfl rfl (fun _ => by kernel_rfl) rfl) ?_
    rintro _ _ ⟨b40, rfl, rfl⟩
    refine ⟨(.cons _ (.refl _)), ?_⟩
    refine WH.asrow (k := 6) 0 1 rfl rfl (by simp [maxLen]) ?_
    refine WH.dw 5 rfl (by kernel_rfl) (G0 rfl) rfl rfl (.append 0 rfl ST_23.1 ZT_42 rfl (by decide) rfl rfl rfl (fun _ hw => slN_drop (hw.slf0 hS) (k := k) (by omega) hc) (one_flat one_nc _) (by omega) (by omega)) ?_
    rintro _ _ ⟨A43, c44, rfl, rfl⟩
    refine ⟨(.cons _ (.refl _)), ?_⟩
    refine WH.take 6 rfl (Pf_blind _ _ _ _ _) (by kernel_rfl) (by kernel_rfl) (by kernel_rfl) (.cons _ (.refl _)) (G0 rfl) rfl rfl (.assign rfl rfl) ?_
    refine WH.done (by kernel_rfl) ?_
    refine WA.seq ?_
    refine WA.roweq 0 rfl _ ((n :: l.drop k).flatMap nc) rfl rfl ?_
    refine WA.region ?_
    refine WR.val (G0 rfl) rfl rfl (.move rfl rfl) ?_
    refine WR.val (G0 rfl) rfl rfl (.move rfl rfl) ?_
    refine WR.val (G0 rfl) rfl rfl (.slice_h rfl ST_23 rfl rfl (by omega) (by omega)) ?_
    refine WR.nilrow 42 6 ?_
    refine WR.dw (G0 rfl) rfl rfl (.append 0 rfl ST_23.1 ZT_42 rfl (by decide) rfl rfl rfl (fun _ hw => slN_pre (hw.slf0 hS) (k := k) (by omega)) (one_flat one_nc _) (by omega) (by omega)) ?_
    rintro _ _ ⟨A46, c47, rfl, rfl⟩
    refine WR.val (G0 rfl) rfl rfl (.move rfl rfl) ?_
    refine WR.dw (G0 rfl) rfl rfl (.append 0 rfl ST_23.1 ZT_42 rfl (by decide) rfl rfl rfl (fun _ hw => hw.slf_row 1 rfl) (one_flat one_nc _) (by omega) (by omega)) ?_
    rintro _ _ ⟨A48, c49, rfl, rfl⟩
    refine WR.val (G0 rfl) rfl rfl (.assign rfl rfl) ?_
    refine WR.nil ?_
    refine WA.roweq 0 rfl ((pput l n)).length (((pput l n)).flatMap nc) (by rw [hpl]; omega) (by rw [pput, ← htw, ← hdw, List.flatMap_append]; rfl) ?_
    exact WA.ret1 rfl rfl (.cons_cons _ (.cons _ (.cons _ .slnil))) ⟨_, _, congrArg (fun q : Nat => Value.slice _ q _) (by rw [hpl]; omega), rfl⟩

set_option maxRecDepth 20000 in
/-- redpencil/redpencilref14.Join -/
theorem jjoinF (l m : List Nd) (A A' : Option Addr) (cap cap' : Nat) (w : World) (hS : SlN w A l) (hM : SlN w A' m) (hl : l.length ≤ 300000) (hm : m.length ≤ 300000) : Ct Tryz.prog 56 #[.slice A l.length cap, .slice A' m.length cap'] [] w (fun u hs => ∃ B c, u = .slice B (gjn l m).length c ∧ hs = [En.row B (gjn l m).length c 42 6 ((gjn l m).flatMap nc)]) := by
  refine Ct.intro Tryz.func56 rfl Tryz.ntmps56 rfl ?_
  refine WA.seq ?_
  refine WA.region ?_
  refine WR.val (G0 rfl) rfl rfl (.assign rfl rfl) ?_
  refine WR.nil ?_
  refine WA.seq ?_
  refine WA.region ?_
  refine WR.val (G0 rfl) rfl rfl (.move rfl rfl) ?_
  refine WR.nilrow 42 6 ?_
  refine WR.dw (G0 rfl) rfl rfl (.append 0 rfl ST_23.1 ZT_42 rfl (by decide) rfl rfl rfl (fun _ hw => hw.slf0 hS) (one_flat one_nc _) (by omega) (by omega)) ?_
  rintro _ _ ⟨A2, c3, rfl, rfl⟩
  refine WR.val (G0 rfl) rfl rfl (.assign rfl rfl) ?_
  refine WR.nil ?_
  refine WA.seq ?_
  refine WA.seq ?_
  refine WA.roweq 0 rfl l.length (l.flatMap nc) (by simp) (by simp) ?_
  refine WA.region ?_
  refine WR.val (G0 rfl) rfl rfl (.assign rfl rfl) ?_
  refine WR.nil ?_
  refine WA.block ?_
  refine WA.loopK (γ := Nat × Option Addr × Nat × List Nd) [(1, _), (4, _)] [] (fun q => [(5, .slice q.2.1 q.2.2.2.length q.2.2.1), (6, .int .i64 (q.1 : Int))]) (fun q => [En.row q.2.1 q.2.2.2.length q.2.2.1 42 6 (q.2.2.2.flatMap nc)]) (fun q => q.1 ≤ m.length ∧ q.2.2.2 = gjn l (m.take q.1)) (fun q => m.length - q.1) (0, A2, c3, l) (.cons rfl (.cons rfl (.nil _))) (.cons (Eq.trans (b := some (.slice A2 (0 + l.length) c3)) rfl (by rw [Nat.zero_add])) (.cons rfl (.nil _))) (.refl _) ⟨by simp, by simp [gjn]⟩ ?_
  intro q hk
  obtain ⟨hk, hd⟩ := hk
  have hcl : q.2.2.2.length ≤ l.length + m.length := by have h9 := gjn_len (m.take q.1) l; rw [← hd] at h9; have := List.length_take_le q.1 m; have := List.length_take_le' q.1 m; omega
  refine WA.seq ?_
  refine WA.seq ?_
  refine WA.region ?_
  refine WR.val (G0 rfl) rfl rfl (.move rfl rfl) ?_
  refine WR.val (G0 rfl) rfl rfl (.move rfl rfl) ?_
  refine WR.val (G0 rfl) rfl rfl (.len rfl ST_23.1 rfl) ?_
  refine WR.val (G0 rfl) rfl rfl (.lss rfl rfl rfl) ?_
  refine WR.nil ?_
  refine WA.cond rfl (fun h5 => ?_) (fun h5 => ?_)
  · have f6 := h5
    try simp only [decide_eq_true_eq, decide_eq_false_iff_not, Bool.not_eq_true', Bool.not_eq_false', Int.not_lt, Int.not_le] at f6
    refine WA.skip ?_
    refine WA.seq ?_
    refine WA.block ?_
    refine WA.seq ?_
    skip
    refine WA.region ?_
    refine WR.val (G0 rfl) rfl rfl (.move rfl rfl) ?_
    refine WR.val (G0 rfl) rfl rfl (.move rfl rfl) ?_
    refine WR.val (G0 rfl) rfl rfl (.move rfl rfl) ?_
    refine WR.val (G0 rfl) rfl rfl (.ix rfl ST_23 rfl rfl (by omega) (by omega) (fun _ hw hn => (hw.slf0 hM).some_ hn)) ?_
    refine WR.val (G0 rfl) rfl rfl (.fe rfl FA_42_0 rfl) ?_
    refine WR.val (G0 rfl) rfl rfl (.loadK (vs := [_, _]) rfl AG_39 rfl (fun _ hw => Rd.el (off := 0) (k := 2) (rdN (hw.slf0 hM) (by omega) (by omega)) rfl)) ?_
    refine WR.dw (G0 rfl) rfl rfl (.callv (caps := []) rfl rfl rfl EN_114 (fun w hw => jfindF _ _ _ _ (hw.slf_row 0 rfl) (by first | omega | (simp; omega)) _)) ?_
    rintro _ _ ⟨rfl, rfl⟩
    refine WR.val (G0 rfl) rfl rfl (.assign rfl rfl) ?_
    refine WR.nil ?_
    refine WA.seq ?_
    have hfb := fnd_bd q.2.2.2 (gx m (q.1 : Int)).d
    refine WA.region ?_
    refine WR.val (G0 rfl) rfl rfl (.move rfl rfl) ?_
    refine WR.val (G0 rfl) rfl rfl (.geq rfl rfl rfl) ?_
    refine WR.nil ?_
    refine WA.cond rfl (fun h8 => ?_) (fun h8 => ?_)
    · have f9 := h8
      try simp only [decide_eq_true_eq, decide_eq_false_iff_not, Bool.not_eq_true', Bool.not_eq_false', Int.not_lt, Int.not_le] at f9
      refine WA.drawsE1 follows 0 ?_
      refine WH.take 0 rfl (Pf_blind _ _ _ _ _) (by kernel_rfl) (by kernel_rfl) (by kernel_rfl) (.cons _ .slnil) (G0 rfl) rfl rfl (.move rfl rfl) ?_
      refine WH.take 1 rfl (Pf_blind _ _ _ _ _) (by kernel_rfl) (by kernel_rfl) (by kernel_rfl) (.cons _ .slnil) (G0 rfl) rfl rfl (.move rfl rfl) ?_
      refine WH.take 2 rfl (Pf_blind _ _ _ _ _) (by kernel_rfl) (by kernel_rfl) (by kernel_rfl) (.cons _ .slnil) (G0 rfl) rfl rfl (.move rfl rfl) ?_
      refine WH.take 3 rfl (Pf_blind _ _ _ _ _) (by kernel_rfl) (by kernel_rfl) (by kernel_rfl) (.cons _ .slnil) (G0 rfl) rfl rfl (.move rfl rfl) ?_
      refine WH.take 6 rfl (Pf_blind _ _ _ _ _) (by kernel_rfl) (by kernel_rfl) (by kernel_rfl) (.cons _ .slnil) (G0 rfl) rfl rfl (.move rfl rfl) ?_
      refine WH.take 7 rfl (Pf_blind _ _ _ _ _) (by kernel_rfl) (by kernel_rfl) (by kernel_rfl) (.cons _ .slnil) (G0 rfl) rfl rfl (.move rfl rfl) ?_
      refine WH.take 8 rfl (Pf_blind _ _ _ _ _) (by kernel_rfl) (by kernel_rfl) (by kernel_rfl) (.cons _ .slnil) (G0 rfl) rfl rfl (.ix rfl ST_23 rfl rfl (by omega) (by omega) (fun _ hw hn => (hw.slf0 hM).some_ hn)) ?_
      refine WH.take 9 rfl (Pf_blind _ _ _ _ _) (by kernel_rfl) (by kernel_rfl) (by kernel_rfl) (.cons _ .slnil) (G0 rfl) rfl rfl (.loadK (vs := [_, _, _, _, _, _]) rfl AG_42 rfl (fun _ hw => rdN (hw.slf0 hM) (by omega) (by omega))) ?_
      refine WH.dw 4 rfl (by kernel_rfl) (G0 rfl) rfl rfl (Ex.dw (.ix rfl ST_23 rfl rfl (by omega) (by omega) (fun _ hw hn => (hw.slf_row 0 rfl).some_ hn))) ?_
      rintro _ _ ⟨rfl, rfl⟩
      refine ⟨(.cons _ .slnil), ?_⟩
      refine WH.dw 5 rfl (by kernel_rfl) (G0 rfl) rfl rfl (Ex.dw (.loadK (vs := [_, _, _, _, _, _]) rfl AG_42 rfl (fun _ hw => rdN (hw.slf_row 0 rfl) (by omega) (by omega)))) ?_
      rintro _ _ ⟨rfl, rfl⟩
      refine ⟨(.cons _ .slnil), ?_⟩
      refine WH.dw 10 rfl (by kernel_rfl) (G0 rfl) rfl rfl (.callv (caps := []) rfl rfl rfl EN_130 (fun w hw => jmergeF _ _ w)) ?_
      rintro _ _ ⟨rfl, rfl⟩
      refine ⟨(.cons _ .slnil), ?_⟩
      refine WH.take 11 rfl (Pf_blind _ _ _ _ _) (by kernel_rfl) (by kernel_rfl) (by kernel_rfl) (.cons _ .slnil) (G0 rfl) rfl rfl (.move rfl rfl) ?_
      refine WH.take 12 rfl (Pf_blind _ _ _ _ _) (by kernel_rfl) (by kernel_rfl) (by kernel_rfl) (.cons _ .slnil) (G0 rfl) rfl rfl (.extract (vs := [_, _]) rfl rfl rfl) ?_
      refine WH.take 13 rfl (Pf_blind _ _ _ _ _) (by kernel_rfl) (by kernel_rfl) (by kernel_rfl) (.cons _ .slnil) (G0 rfl) rfl rfl (.extract (vs := [_, _]) rfl rfl rfl) ?_
      refine WH.dw 14 rfl (by kernel_rfl) (G0 rfl) rfl rfl (Ex.dw (.ix rfl ST_23 rfl rfl (by omega) (by omega) (fun _ hw hn => (hw.slf_row 0 rfl).some_ hn))) ?_
      rintro _ _ ⟨rfl, rfl⟩
      refine ⟨(.cons _ .slnil), ?_⟩
      refine WH.dw0 15 rfl (by kernel_rfl) (G0 rfl) rfl (.storeRow 0 rfl AG_42.2 rfl rfl (nc _) rfl rfl (one_nc _) rfl (by omega) (by decide)) ?_
      rintro _ _ ⟨rfl, rfl⟩
      refine ⟨(.cons _ .slnil), ?_⟩
      refine WH.done (by kernel_rfl) ?_
      refine WA.mark ?_
      refine WA.region ?_
      refine WR.val (G0 rfl) rfl rfl (.move rfl rfl) ?_
      refine WR.val (G0 rfl) rfl rfl (.add rfl rfl rfl (by omega) (by omega)) ?_
      refine WR.val (G0 rfl) rfl rfl (.assign rfl rfl) ?_
      refine WR.nil ?_
      have hst := gjn_take (a := l) (b := m) (k := q.1) (by omega)
      rw [← hd, gput_eq] at hst
      rw [if_pos (by assumption)] at hst
      refine WA.roweq 0 rfl (q.2.2.2.set (fnd q.2.2.2 (gx m (q.1 : Int)).d).toNat (jmg (gx q.2.2.2 (fnd q.2.2.2 (gx m (q.1 : Int)).d)) (gx m (q.1 : Int))).1).length ((q.2.2.2.set (fnd q.2.2.2 (gx m (q.1 : Int)).d).toNat (jmg (gx q.2.2.2 (fnd q.2.2.2 (gx m (q.1 : Int)).d)) (gx m (q.1 : Int))).1).flatMap nc) (by rw [List.length_set]) (putL_flat (enc := nc) (k := 6) (fun _ => rfl) q.2.2.2 _ _ (by omega)) ?_
      exact WA.roundK (q.1 + 1, q.2.1, q.2.2.1, q.2.2.2.set (fnd q.2.2.2 (gx m (q.1 : Int)).d).toNat (jmg (gx q.2.2.2 (fnd q.2.2.2 (gx m (q.1 : Int)).d)) (gx m (q.1 : Int))).1) (.cons rfl (.cons rfl (.nil _))) (.cons (Eq.trans (b := some (.slice q.2.1 q.2.2.2.length q.2.2.1)) rfl (by rw [List.length_set])) (.cons rfl (.nil _))) (.refl _) ⟨by dsimp only; omega, hst.symm⟩ (by dsimp only; omega)
    · have f10 := h8
      try simp only [decide_eq_true_eq, decide_eq_false_iff_not, Bool.not_eq_true', Bool.not_eq_false', Int.not_lt, Int.not_le] at f10
      refine WA.rowcap 0 rfl (fun hcap => ?_)
      refine WA.region ?_
      refine WR.val (G0 rfl) rfl rfl (.move rfl rfl) ?_
      refine WR.val (G0 rfl) rfl rfl (.move rfl rfl) ?_
      refine WR.val (G0 rfl) rfl rfl (.move rfl rfl) ?_
      refine WR.val (G0 rfl) rfl rfl (.ix rfl ST_23 rfl rfl (by omega) (by omega) (fun _ hw hn => (hw.slf0 hM).some_ hn)) ?_
      refine WR.val (G0 rfl) rfl rfl (.loadK (vs := [_, _, _, _, _, _]) rfl AG_42 rfl (fun _ hw => rdN (hw.slf0 hM) (by omega) (by omega))) ?_
      refine WR.dw (G0 rfl) rfl rfl (.call0 (caps := []) rfl rfl rfl EN_131 (fun w hw => jputF q.2.2.2 _ _ _ (hw.slf_row 0 rfl) (by omega) _ hcap.1)) ?_
      rintro _ _ ⟨_, ⟨v12, v13, rfl, rfl⟩, rfl⟩
      refine WR.val (G0 rfl) rfl rfl (.assign rfl rfl) ?_
      refine WR.nil ?_
      refine WA.mark ?_
      refine WA.region ?_
      refine WR.val (G0 rfl) rfl rfl (.move rfl rfl) ?_
      refine WR.val (G0 rfl) rfl rfl (.add rfl rfl rfl (by omega) (by omega)) ?_
      refine WR.val (G0 rfl) rfl rfl (.assign rfl rfl) ?_
      refine WR.nil ?_
      have hst := gjn_take (a := l) (b := m) (k := q.1) (by omega)
      rw [← hd, gput_eq] at hst
      rw [if_neg (by omega)] at hst
      exact WA.roundK (q.1 + 1, v12, v13, pput q.2.2.2 (gx m (q.1 : Int))) (.cons rfl (.cons rfl (.nil _))) (.cons rfl (.cons rfl (.nil _))) (.cons_cons _ (.cons _ .slnil)) ⟨by dsimp only; omega, hst.symm⟩ (by dsimp only; omega)
  · have f15 := h5
    try simp only [decide_eq_true_eq, decide_eq_false_iff_not, Bool.not_eq_true', Bool.not_eq_false', Int.not_lt, Int.not_le] at f15
    refine WA.exit rfl ?_
    refine WA.seq ?_
    refine WA.region ?_
    refine WR.val (G0 rfl) rfl rfl (.move rfl rfl) ?_
    refine WR.val (G0 rfl) rfl rfl (.assign rfl rfl) ?_
    refine WR.nil ?_
    have hE : q.2.2.2 = gjn l m := by rw [hd, List.take_of_length_le (by omega)]
    rw [hE]
    exact WA.ret1 rfl rfl (.refl _) ⟨_, _, rfl, rfl⟩

set_option maxRecDepth 20000 in
/-- redpencil/redpencilref14.Same -/
theorem jsameF (l : List Nd) (A : Option Addr) (cap : Nat) (w : World) (hS : SlN w A l) (hl : l.length ≤ 800000) (m : List Nd) (A' : Option Addr) (cap' : Nat) (hM : SlN w A' m) (hm : m.length ≤ 800000) : Ct Tryz.prog 48 #[.slice A l.length cap, .slice A' m.length cap'] [] w (fun u hs => u = .bool (decide (l = m)) ∧ hs = []) := by
  refine Ct.intro Tryz.func48 rfl Tryz.ntmps48 rfl ?_
  refine WA.seq ?_
  refine WA.region ?_
  refine WR.val (G0 rfl) rfl rfl (.assign rfl rfl) ?_
  refine WR.nil ?_
  refine WA.seq ?_
  refine WA.seq ?_
  refine WA.region ?_
  refine WR.val (G0 rfl) rfl rfl (.move rfl rfl) ?_
  refine WR.val (G0 rfl) rfl rfl (.len rfl ST_23.1 rfl) ?_
  refine WR.val (G0 rfl) rfl rfl (.move rfl rfl) ?_
  refine WR.val (G0 rfl) rfl rfl (.len rfl ST_23.1 rfl) ?_
  refine WR.val (G0 rfl) rfl rfl (.neq rfl rfl rfl) ?_
  refine WR.nil ?_
  refine WA.cond rfl (fun h2 => ?_) (fun h2 => ?_)
  · have f3 := h2
    try simp only [decide_eq_true_eq, decide_eq_false_iff_not, Bool.not_eq_true', Bool.not_eq_false', Int.not_lt, Int.not_le] at f3
    refine WA.seq ?_
    refine WA.region ?_
    refine WR.val (G0 rfl) rfl rfl (.assign rfl rfl) ?_
    refine WR.nil ?_
    exact WA.ret1 rfl rfl (List.nil_sublist _) ⟨by rw [decide_eq_false (fun e => by subst e; simp_all)], rfl⟩
  · have f4 := h2
    try simp only [decide_eq_true_eq, decide_eq_false_iff_not, Bool.not_eq_true', Bool.not_eq_false', Int.not_lt, Int.not_le] at f4
    refine WA.skip ?_
    refine WA.seq ?_
    refine WA.seq ?_
    refine WA.region ?_
    refine WR.val (G0 rfl) rfl rfl (.assign rfl rfl) ?_
    refine WR.nil ?_
    refine WA.block ?_
    refine WA.loopK (γ := Nat) [(0, _), (1, _)] [] (fun k => [(5, .int .i64 (k : Int))]) (fun k => []) (fun k => k ≤ l.length ∧ ∀ j : Nat, j < k → gx l (j : Int) = gx m (j : Int)) (fun k => l.length - k) 0 (.cons rfl (.cons rfl (.nil _))) (.cons rfl (.nil _)) .slnil ⟨by omega, fun _ h => absurd h (by omega)⟩ ?_
    intro k hk
    obtain ⟨hk, hd⟩ := hk
    refine WA.seq ?_
    refine WA.seq ?_
    refine WA.region ?_
    refine WR.val (G0 rfl) rfl rfl (.move rfl rfl) ?_
    refine WR.val (G0 rfl) rfl rfl (.move rfl rfl) ?_
    refine WR.val (G0 rfl) rfl rfl (.len rfl ST_23.1 rfl) ?_
    refine WR.val (G0 rfl) rfl rfl (.lss rfl rfl rfl) ?_
    refine WR.nil ?_
    refine WA.cond rfl (fun h6 => ?_) (fun h6 => ?_)
    · have f7 := h6
      try simp only [decide_eq_true_eq, decide_eq_false_iff_not, Bool.not_eq_true', Bool.not_eq_false', Int.not_lt, Int.not_le] at f7
      refine WA.skip ?_
      refine WA.seq ?_
      refine WA.block ?_
      refine WA.seq ?_
      refine WA.draws0 follows ?_
      refine WH.take 0 rfl (Pf_blind _ _ _ _ _) (by kernel_rfl) (by kernel_rfl) (by kernel_rfl) .slnil (G0 rfl) rfl rfl (.move rfl rfl) ?_
      refine WH.take 1 rfl (Pf_blind _ _ _ _ _) (by kernel_rfl) (by kernel_rfl) (by kernel_rfl) .slnil (G0 rfl) rfl rfl (.move rfl rfl) ?_
      refine WH.take 2 rfl (Pf_blind _ _ _ _ _) (by kernel_rfl) (by kernel_rfl) (by kernel_rfl) .slnil (G0 rfl) rfl rfl (.ix rfl ST_23 rfl rfl (by omega) (by omega) (fun _ hw hn => (hw.slf0 hS).some_ hn)) ?_
      refine WH.take 3 rfl (Pf_blind _ _ _ _ _) (by kernel_rfl) (by kernel_rfl) (by kernel_rfl) .slnil (G0 rfl) rfl rfl (.loadK (vs := [_, _, _, _, _, _]) rfl AG_42 rfl (fun _ hw => rdN (hw.slf0 hS) (by omega) (by omega))) ?_
      refine WH.take 4 rfl (Pf_blind _ _ _ _ _) (by kernel_rfl) (by kernel_rfl) (by kernel_rfl) .slnil (G0 rfl) rfl rfl (.move rfl rfl) ?_
      refine WH.take 5 rfl (Pf_blind _ _ _ _ _) (by kernel_rfl) (by kernel_rfl) (by kernel_rfl) .slnil (G0 rfl) rfl rfl (.move rfl rfl) ?_
      refine WH.take 6 rfl (Pf_blind _ _ _ _ _) (by kernel_rfl) (by kernel_rfl) (by kernel_rfl) .slnil (G0 rfl) rfl rfl (.ix rfl ST_23 rfl rfl (by omega) (by omega) (fun _ hw hn => (hw.slf0 hM).some_ hn)) ?_
      refine WH.take 7 rfl (Pf_blind _ _ _ _ _) (by kernel_rfl) (by kernel_rfl) (by kernel_rfl) .slnil (G0 rfl) rfl rfl (.loadK (vs := [_, _, _, _, _, _]) rfl AG_42 rfl (fun _ hw => rdN (hw.slf0 hM) (by omega) (by omega))) ?_
      refine WH.take 8 rfl (Pf_blind _ _ _ _ _) (by kernel_rfl) (by kernel_rfl) (by kernel_rfl) .slnil (G0 rfl) rfl rfl (.bin rfl rfl rfl EQT_neq_42) ?_
      refine WH.done (by kernel_rfl) ?_
      refine WA.cond rfl (fun h9 => ?_) (fun h9 => ?_)
      · have f10 := h9
        try simp only [decide_eq_true_eq, decide_eq_false_iff_not, Bool.not_eq_true', Bool.not_eq_false', Int.not_lt, Int.not_le] at f10
        refine WA.seq ?_
        refine WA.region ?_
        refine WR.val (G0 rfl) rfl rfl (.assign rfl rfl) ?_
        refine WR.nil ?_
        exact WA.ret1 rfl rfl (List.nil_sublist _) ⟨by rw [decide_eq_false (fun e => by subst e; simp_all)], rfl⟩
      · have f11 := h9
        try simp only [decide_eq_true_eq, decide_eq_false_iff_not, Bool.not_eq_true', Bool.not_eq_false', Int.not_lt, Int.not_le] at f11
        refine WA.skip ?_
        refine WA.mark ?_
        refine WA.region ?_
        refine WR.val (G0 rfl) rfl rfl (.move rfl rfl) ?_
        refine WR.val (G0 rfl) rfl rfl (.add rfl rfl rfl (by omega) (by omega)) ?_
        refine WR.val (G0 rfl) rfl rfl (.assign rfl rfl) ?_
        refine WR.nil ?_
        exact WA.roundK (k + 1) (.cons rfl (.cons rfl (.nil _))) (.cons rfl (.nil _)) .slnil ⟨by omega, lt_snoc hd (by simp_all)⟩ (by omega)
    · have f12 := h6
      try simp only [decide_eq_true_eq, decide_eq_false_iff_not, Bool.not_eq_true', Bool.not_eq_false', Int.not_lt, Int.not_le] at f12
      refine WA.exit rfl ?_
      refine WA.seq ?_
      refine WA.region ?_
      refine WR.val (G0 rfl) rfl rfl (.assign rfl rfl) ?_
      refine WR.nil ?_
      exact WA.ret1 rfl rfl (List.nil_sublist _) ⟨by rw [decide_eq_true (list_ext_gx (by omega) (fun j hj => hd j (by omega)))], rfl⟩

set_option maxRecDepth 20000 in
/-- redpencil/redpencilref14.Copy -/
theorem jcopyF (l : List Nd) (A : Option Addr) (cap : Nat) (w : World) (hS : SlN w A l) (hl : l.length ≤ 800000) : Ct Tryz.prog 39 #[.slice A l.length cap] [] w (fun u hs => ∃ B c, u = .slice B (l).length c ∧ hs = [En.row B (l).length c 42 6 ((l).flatMap nc)]) := by
  refine Ct.intro Tryz.func39 rfl Tryz.ntmps39 rfl ?_
  refine WA.seq ?_
  refine WA.region ?_
  refine WR.val (G0 rfl) rfl rfl (.assign rfl rfl) ?_
  refine WR.nil ?_
  refine WA.seq ?_
  refine WA.region ?_
  refine WR.val (G0 rfl) rfl rfl (.move rfl rfl) ?_
  refine WR.nilrow 42 6 ?_
  refine WR.dw (G0 rfl) rfl rfl (.append 0 rfl ST_23.1 ZT_42 rfl (by decide) rfl rfl rfl (fun _ hw => hw.slf0 hS) (one_flat one_nc _) (by omega) (by omega)) ?_
  rintro _ _ ⟨A2, c3, rfl, rfl⟩
  refine WR.val (G0 rfl) rfl rfl (.assign rfl rfl) ?_
  refine WR.nil ?_
  refine WA.roweq 0 rfl l.length (l.flatMap nc) (by simp) (by simp) ?_
  exact WA.ret1 rfl rfl (.refl _) ⟨_, _, congrArg (fun q : Nat => Value.slice _ q _) (by omega), rfl⟩

set_option maxRecDepth 20000 in
/-- redpencil/redpencilref14.first -/
theorem jfirstF (a b : Nd) (w : World) : Ct Tryz.prog 260 #[nv a, nv b] [] w (fun u hs => u = .bool (nfirst a b) ∧ hs = []) := by
  refine Ct.intro Tryz.func260 rfl Tryz.ntmps260 rfl ?_
  refine WA.seq ?_
  refine WA.region ?_
  refine WR.dw (G0 rfl) rfl rfl (.box (vs := [_, _, _, _, _, _]) rfl rfl rfl) ?_
  rintro _ _ ⟨b2, rfl, rfl⟩
  refine WR.dw (G0 rfl) rfl rfl (.box (vs := [_, _, _, _, _, _]) rfl rfl rfl) ?_
  rintro _ _ ⟨b4, rfl, rfl⟩
  refine WR.val (G0 rfl) rfl rfl (.assign rfl rfl) ?_
  refine WR.nil ?_
  refine WA.seq ?_
  refine WA.region ?_
  refine WR.val (G0 rfl) rfl rfl (.fa rfl FA_42_2 rfl) ?_
  refine WR.val (G0 rfl) rfl rfl (.load1 rfl NA_3 rfl (fun _ hw => hw.rd_blk (k := 1) 1 rfl rfl)) ?_
  refine WR.val (G0 rfl) rfl rfl (.fa rfl FA_42_2 rfl) ?_
  refine WR.val (G0 rfl) rfl rfl (.load1 rfl NA_3 rfl (fun _ hw => hw.rd_blk (k := 1) 0 rfl rfl)) ?_
  refine WR.val (G0 rfl) rfl rfl (.gtr rfl rfl rfl) ?_
  refine WR.val (G0 rfl) rfl rfl (.move rfl rfl) ?_
  refine WR.split (d := 10) rfl (fun h6 => ?_) (fun h6 => ?_)
  · have f7 := h6
    try simp only [decide_eq_true_eq, decide_eq_false_iff_not, Bool.not_eq_true', Bool.not_eq_false', Int.not_lt, Int.not_le] at f7
    refine WR.off (Gf rfl rfl rfl h6) rfl rfl ?_
    refine WR.off (Gf rfl rfl rfl h6) rfl rfl ?_
    refine WR.off (Gf rfl rfl rfl h6) rfl rfl ?_
    refine WR.off (Gf rfl rfl rfl h6) rfl rfl ?_
    refine WR.off (Gf rfl rfl rfl h6) rfl rfl ?_
    refine WR.off (Gf rfl rfl rfl h6) rfl rfl ?_
    refine WR.off (Gu rfl rfl rfl) rfl rfl ?_
    refine WR.off (Gu rfl rfl rfl) rfl rfl ?_
    refine WR.off (Gu rfl rfl rfl) rfl rfl ?_
    refine WR.off (Gu rfl rfl rfl) rfl rfl ?_
    refine WR.off (Gu rfl rfl rfl) rfl rfl ?_
    refine WR.off (Gf rfl rfl rfl h6) rfl rfl ?_
    refine WR.val (G0 rfl) rfl rfl (.pick_t rfl rfl h6 rfl) ?_
    refine WR.val (G0 rfl) rfl rfl (.assign rfl rfl) ?_
    refine WR.nil ?_
    exact WA.ret1 rfl rfl (List.nil_sublist _) ⟨by congr 1; rw [Bool.eq_iff_iff]; simp_all [nfirst] <;> omega, rfl⟩
  · have f8 := h6
    try simp only [decide_eq_true_eq, decide_eq_false_iff_not, Bool.not_eq_true', Bool.not_eq_false', Int.not_lt, Int.not_le] at f8
    refine WR.val (Gt rfl rfl rfl h6) rfl rfl (.fa rfl FA_42_2 rfl) ?_
    refine WR.val (Gt rfl rfl rfl h6) rfl rfl (.load1 rfl NA_3 rfl (fun _ hw => hw.rd_blk (k := 1) 1 rfl rfl)) ?_
    refine WR.val (Gt rfl rfl rfl h6) rfl rfl (.fa rfl FA_42_2 rfl) ?_
    refine WR.val (Gt rfl rfl rfl h6) rfl rfl (.load1 rfl NA_3 rfl (fun _ hw => hw.rd_blk (k := 1) 0 rfl rfl)) ?_
    refine WR.val (Gt rfl rfl rfl h6) rfl rfl (.eql rfl rfl rfl) ?_
    refine WR.val (Gt rfl rfl rfl h6) rfl rfl (.move rfl rfl) ?_
    refine WR.split (d := 16) rfl (fun h10 => ?_) (fun h10 => ?_)
    · have f11 := h10
      try simp only [decide_eq_true_eq, decide_eq_false_iff_not, Bool.not_eq_true', Bool.not_eq_false', Int.not_lt, Int.not_le] at f11
      refine WR.val (Gt rfl rfl rfl h10) rfl rfl (.fa rfl FA_42_0 rfl) ?_
      refine WR.val (Gt rfl rfl rfl h10) rfl rfl (.loadK (vs := [_, _]) rfl AG_39 rfl (fun _ hw => hw.rd_blk (k := 2) 0 rfl rfl)) ?_
      refine WR.val (Gt rfl rfl rfl h10) rfl rfl (.fa rfl FA_42_0 rfl) ?_
      refine WR.val (Gt rfl rfl rfl h10) rfl rfl (.loadK (vs := [_, _]) rfl AG_39 rfl (fun _ hw => hw.rd_blk (k := 2) 1 rfl rfl)) ?_
      refine WR.dw (Gt rfl rfl rfl h10) rfl rfl (.callv (caps := []) rfl rfl rfl EN_129 (fun w hw => jbeforeF _ _ w)) ?_
      rintro _ _ ⟨rfl, rfl⟩
      refine WR.val (Gt rfl rfl rfl h6) rfl rfl (.pick_t rfl rfl h10 rfl) ?_
      refine WR.val (G0 rfl) rfl rfl (.pick_f rfl rfl h6 rfl) ?_
      refine WR.val (G0 rfl) rfl rfl (.assign rfl rfl) ?_
      refine WR.nil ?_
      exact WA.ret1 rfl rfl (List.nil_sublist _) ⟨by congr 1; rw [Bool.eq_iff_iff]; simp_all [nfirst] <;> omega, rfl⟩
    · have f13 := h10
      try simp only [decide_eq_true_eq, decide_eq_false_iff_not, Bool.not_eq_true', Bool.not_eq_false', Int.not_lt, Int.not_le] at f13
      refine WR.off (Gf rfl rfl rfl h10) rfl rfl ?_
      refine WR.off (Gf rfl rfl rfl h10) rfl rfl ?_
      refine WR.off (Gf rfl rfl rfl h10) rfl rfl ?_
      refine WR.off (Gf rfl rfl rfl h10) rfl rfl ?_
      refine WR.off (Gf rfl rfl rfl h10) rfl rfl ?_
      refine WR.val (Gt rfl rfl rfl h6) rfl rfl (.pick_f rfl rfl h10 rfl) ?_
      refine WR.val (G0 rfl) rfl rfl (.pick_f rfl rfl h6 rfl) ?_
      refine WR.val (G0 rfl) rfl rfl (.assign rfl rfl) ?_
      refine WR.nil ?_
      exact WA.ret1 rfl rfl (List.nil_sublist _) ⟨by congr 1; rw [Bool.eq_iff_iff]; simp_all [nfirst] <;> omega, rfl⟩
end Go.Proofs.YtpbillinpjccdaaGreat.Fn
