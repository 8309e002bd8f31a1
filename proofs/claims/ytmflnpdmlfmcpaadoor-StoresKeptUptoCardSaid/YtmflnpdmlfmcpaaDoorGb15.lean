/- The texts StE of this seat, joined. No condition beyond what each theorem states. -/
import Derived.Test.YtmflnpdmlfmcpaaDoorGb14
/- The contracts of length and signed of package codec. Plain theorems; no condition beyond the bounds that each states. -/
namespace Go.Proofs.YtmflnpdmlfmcpaaDoor.Dr
open Go.RowKit
theorem lenP_some {l : List UInt8} {n : Nat} {s : List UInt8} (h : lenP l = some (n, s)) : n ≤ s.length ∧ s.length ≤ l.length := by
  unfold lenP at h
  cases hn : numP 0 l with
  | none => rw [hn] at h; cases h
  | some p =>
    obtain ⟨u, t⟩ := p
    rw [hn] at h
    simp only at h
    split at h
    · next hc => cases h; exact ⟨hc, (num_lt hn).2⟩
    · cases h
set_option maxRecDepth 100000 in
theorem rd_length (R : Nat) (l : List UInt8) (w : World) (hl : l.length ≤ 1000000000) (h : RestR w R l) :
    Calls Tryd.prog 109 #[.pointer (some ⟨R, 0, none⟩)] w fun e w' => Moves R w w' ∧ ((∃ n s, lenP l = some (n, s) ∧ e = .returned (.int .i64 (n : Int)) ∧ RestR w' R s) ∨ (lenP l = none ∧ e = .panicked [codeP])) := by
  have HN := hide (rd_number R l w h)
  have HL := hide hl
  clear h hl
  go_enter Tryd.func109, Tryd.ntmps109
  go_wp2_with fail
  refine HN.out.mono ?_
  rintro e w1 ⟨hm, (⟨u, s, hn, rfl, hr⟩ | ⟨hn, rfl⟩)⟩
  · have hs := num_lt hn
    obtain ⟨a, m, c, hrow, hmc, hsl, hol⟩ := hr
    have hml := hsl.1
    have f0 : w1.cell? ⟨R, 0, none⟩ = some (.slice a m c) := by have := RowIs.cell hrow 0; simpa using this
    have HNP := hide hn
    have HM := hide hm
    have HR : Hid (RestR w1 R s) := ⟨a, m, c, hrow, hmc, hsl, hol⟩
    have HMS : Hid (m ≤ 1000000000 ∧ m = s.length) := by have := HL.out; show _ ∧ _; omega
    have HU : Hid (u < 18446744073709551616) := hs.1
    have hm64 : m < 18446744073709551616 := by have := HMS.out; omega
    have HM64 := hide hm64
    clear HN hn hm hrow hmc hsl hml hs hm64 hol
    by_cases hum : u ≤ m
    · have g1 : (u : Int) ≤ (m : Int) := by omega
      have HX : Hid (lenP l = some (u, s)) := by rw [Hid, lenP, HNP.out]; exact if_pos (by have := HMS.out; omega)
      have hu63 : u < 9223372036854775808 := by have := HMS.out; omega
      have HU63 := hide hu63
      have HW := hide (rd_want R true w1)
      have HUM := hide hum
      clear hum hu63
      go_wp2_with (refine wpList_runX (.int .u64 (m : Int)) rfl (op_c3to64 (.tmp 12) rfl m HM64.out rfl) ?_; simp only [Act.put, List.setIfInBounds_toArray, List.set_cons_succ, List.set_cons_zero])
      refine HW.out.mono ?_
      rintro e w2 ⟨rfl, (⟨_, rfl⟩ | ⟨hb, rfl⟩)⟩
      · clear g1 f0 HW HUM
        go_wp2_with (refine wpList_runX (.int .i64 (u : Int)) rfl (op_c64to3 (.tmp 16) rfl u HU63.out rfl) ?_; simp only [Act.put, List.setIfInBounds_toArray, List.set_cons_succ, List.set_cons_zero])
        go_ret
        exact ⟨HM.out, .inl ⟨u, s, HX.out, rfl, HR.out⟩⟩
      · cases hb
    · have g1 : ¬ (u : Int) ≤ (m : Int) := by omega
      have HX : Hid (lenP l = none) := by rw [Hid, lenP, HNP.out]; exact if_neg (by have := HMS.out; omega)
      have HW := hide (by have h9 := rd_want R (decide (u ≤ m)) w1; exact h9)
      have HUM := hide hum
      clear hum
      go_wp2_with (refine wpList_runX (.int .u64 (m : Int)) rfl (op_c3to64 (.tmp 12) rfl m HM64.out rfl) ?_; simp only [Act.put, List.setIfInBounds_toArray, List.set_cons_succ, List.set_cons_zero])
      refine HW.out.mono ?_
      rintro e w2 ⟨rfl, (⟨hb, rfl⟩ | ⟨_, rfl⟩)⟩
      · rw [decide_eq_false HUM.out] at hb; cases hb
      · go_wp2_with fail
        exact ⟨rfl, HM.out, .inr ⟨HX.out, rfl⟩⟩
  · have HX : Hid (lenP l = none) := by rw [Hid, lenP, hn]
    have HM := hide hm
    clear HN hn hm
    go_wp2_with fail
    exact ⟨rfl, HM.out, .inr ⟨HX.out, rfl⟩⟩
theorem op_shr1 {o : Oper} {act : Act} {W : World} (p q : Operand) (ho : o.op = .binOp .shr 107 p q 100) (u : Nat) (hp : act.eval p = .int .u64 (u : Int)) (hq : act.eval q = .int .u64 1) : (execOp act.eval o).run Tryd.prog W = .ok (.value (.int .u64 ((u / 2 : Nat) : Int))) W := by
  have h3 : (u : Int).fdiv (2 ^ 1) = ((u / 2 : Nat) : Int) := by rw [Int.fdiv_eq_ediv_of_nonneg _ (by decide)]; omega
  have h' : (binOp .shr 107 (.int .u64 (u : Int)) (.int .u64 1)).run Tryd.prog W = .ok (.int .u64 ((u / 2 : Nat) : Int)) W := by
    refine Eq.trans ?_ (show Result.ok (.int .u64 ((u : Int).fdiv (2 ^ 1))) W = _ by rw [h3])
    kernel_rfl
  unfold execOp
  simp only [ho, hp, hq]
  rw [show (eqGuard .shr 107 p q (.int .u64 (u : Int)) (.int .u64 1)) = pure () from rfl]
  simp only [Sem.run_bind, Sem.run_pure, Result.andThen_ok, h']
theorem op_and1 {o : Oper} {act : Act} {W : World} (p q : Operand) (ho : o.op = .binOp .and 107 p q 107) (u : Nat) (hu : u < 18446744073709551616) (hp : act.eval p = .int .u64 (u : Int)) (hq : act.eval q = .int .u64 1) : (execOp act.eval o).run Tryd.prog W = .ok (.value (.int .u64 ((u % 2 : Nat) : Int))) W := by
  have h := u64_and_nat u 1 hu (by omega)
  rw [Nat.and_one_is_mod] at h
  have h' : (binOp .and 107 (.int .u64 (u : Int)) (.int .u64 1)).run Tryd.prog W = .ok (.int .u64 ((u % 2 : Nat) : Int)) W := by rw [← h]; kernel_rfl
  unfold execOp
  simp only [ho, hp, hq]
  rw [show (eqGuard .and 107 p q (.int .u64 (u : Int)) (.int .u64 1)) = pure () from rfl]
  simp only [Sem.run_bind, Sem.run_pure, Result.andThen_ok, h']
theorem op_neg2 {o : Oper} {act : Act} {W : World} (p : Operand) (ho : o.op = .unOp .neg 3 p) (u : Nat) (hu : u < 2) (hp : act.eval p = .int .i64 (u : Int)) : (execOp act.eval o).run Tryd.prog W = .ok (.value (.int .i64 (-(u : Int)))) W := by
  have h3 : IntKind.i64.wrap (0 - (u : Int)) = -(u : Int) := by rw [IntKind.wrap_i64]; omega
  unfold execOp
  simp only [ho, hp]
  refine Eq.trans ?_ (show Result.ok (.value (.int .i64 (IntKind.i64.wrap (0 - (u : Int))))) W = _ by rw [h3])
  kernel_rfl
theorem i64_xor_sgn (u : Nat) (hu : u < 18446744073709551616) : bits .xor .i64 ((u / 2 : Nat) : Int) (-((u % 2 : Nat) : Int)) = sgn u := by
  have h2 : (BitVec.ofInt 64 ((u / 2 : Nat) : Int)).toNat = u / 2 := by rw [BitVec.ofInt_natCast, BitVec.toNat_ofNat]; exact Nat.mod_eq_of_lt (by omega)
  unfold sgn
  rcases Nat.mod_two_eq_zero_or_one u with h | h
  · rw [h, if_pos rfl]
    show IntKind.i64.wrap ((BitVec.ofInt 64 ((u / 2 : Nat) : Int) ^^^ BitVec.ofInt 64 (-((0 : Nat) : Int))).toNat : Int) = _
    rw [show BitVec.ofInt 64 (-((0 : Nat) : Int)) = 0#64 from by decide, BitVec.xor_zero, h2, IntKind.wrap_i64]
    omega
  · rw [h, if_neg (by omega)]
    show IntKind.i64.wrap ((BitVec.ofInt 64 ((u / 2 : Nat) : Int) ^^^ BitVec.ofInt 64 (-((1 : Nat) : Int))).toNat : Int) = _
    rw [show BitVec.ofInt 64 (-((1 : Nat) : Int)) = BitVec.allOnes 64 from by decide, BitVec.xor_allOnes, BitVec.toNat_not, h2, IntKind.wrap_i64]
    omega
theorem op_xorS {o : Oper} {act : Act} {W : World} (p q : Operand) (ho : o.op = .binOp .xor 3 p q 3) (u : Nat) (hu : u < 18446744073709551616) (hp : act.eval p = .int .i64 ((u / 2 : Nat) : Int)) (hq : act.eval q = .int .i64 (-((u % 2 : Nat) : Int))) : (execOp act.eval o).run Tryd.prog W = .ok (.value (.int .i64 (sgn u))) W := by
  have h := i64_xor_sgn u hu
  have h' : (binOp .xor 3 (.int .i64 ((u / 2 : Nat) : Int)) (.int .i64 (-((u % 2 : Nat) : Int)))).run Tryd.prog W = .ok (.int .i64 (sgn u)) W := by rw [← h]; kernel_rfl
  unfold execOp
  simp only [ho, hp, hq]
  rw [show (eqGuard .xor 3 p q (.int .i64 ((u / 2 : Nat) : Int)) (.int .i64 (-((u % 2 : Nat) : Int)))) = pure () from rfl]
  simp only [Sem.run_bind, Sem.run_pure, Result.andThen_ok, h']
theorem sgn_i64 {u : Nat} (h : u < 18446744073709551616) : I64 (sgn u) := by unfold sgn I64; split <;> omega
set_option maxRecDepth 100000 in
theorem rd_signed (u : Nat) (w : World) (hu : u < 18446744073709551616) :
    Calls Tryd.prog 107 #[.int .u64 (u : Int)] w fun e w' => e = .returned (.int .i64 (sgn u)) ∧ w = w' := by
  have HU := hide hu
  have h1 : u / 2 < 9223372036854775808 := by omega
  have h2 : u % 2 < 9223372036854775808 := by omega
  have h3 : u % 2 < 2 := by omega
  have H1 := hide h1
  have H2 := hide h2
  have H3 := hide h3
  clear hu h1 h2 h3
  go_enter Tryd.func107, Tryd.ntmps107
  go_wp2_with (first
    | (refine wpList_runX (.int .u64 ((u / 2 : Nat) : Int)) rfl (op_shr1 (.tmp 3) (.const (.int .u64 1)) rfl u rfl rfl) ?_; simp only [Act.put, List.setIfInBounds_toArray, List.set_cons_succ, List.set_cons_zero])
    | (refine wpList_runX (.int .i64 ((u / 2 : Nat) : Int)) rfl (op_c64to3 (.tmp 4) rfl (u / 2) H1.out rfl) ?_; simp only [Act.put, List.setIfInBounds_toArray, List.set_cons_succ, List.set_cons_zero])
    | (refine wpList_runX (.int .u64 ((u % 2 : Nat) : Int)) rfl (op_and1 (.tmp 6) (.const (.int .u64 1)) rfl u HU.out rfl rfl) ?_; simp only [Act.put, List.setIfInBounds_toArray, List.set_cons_succ, List.set_cons_zero])
    | (refine wpList_runX (.int .i64 ((u % 2 : Nat) : Int)) rfl (op_c64to3 (.tmp 7) rfl (u % 2) H2.out rfl) ?_; simp only [Act.put, List.setIfInBounds_toArray, List.set_cons_succ, List.set_cons_zero])
    | (refine wpList_runX (.int .i64 (-((u % 2 : Nat) : Int))) rfl (op_neg2 (.tmp 8) rfl (u % 2) H3.out rfl) ?_; simp only [Act.put, List.setIfInBounds_toArray, List.set_cons_succ, List.set_cons_zero])
    | (refine wpList_runX (.int .i64 (sgn u)) rfl (op_xorS (.tmp 5) (.tmp 9) rfl u HU.out rfl rfl) ?_; simp only [Act.put, List.setIfInBounds_toArray, List.set_cons_succ, List.set_cons_zero]))
  go_ret
  exact ⟨rfl, rfl⟩
end Go.Proofs.YtmflnpdmlfmcpaaDoor.Dr
