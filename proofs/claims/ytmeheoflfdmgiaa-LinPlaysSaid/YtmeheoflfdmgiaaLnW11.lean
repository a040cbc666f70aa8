/- The laws of the least row, of what is found, of plays. -/
import Derived.Test.YtmeheoflfdmgiaaLnW10
import Derived.Test.YtmeheoflfdmgiaaLnQ
set_option linter.unusedVariables false
namespace Go.Proofs.Ytmeheoflfdmgiaa.Lin
open Go Go.RowKit Go.Proofs.Ytmeheoflfdmgiaa.Sx Go.Proofs.Ytmeheoflfdmgiaa
set_option maxRecDepth 100000

theorem x_eqlbs {P : Program} {l : Env} {w : World} {d : Option Tmp} {ty t ty2 : TypeId} {pos : String} {af : Array Edge} {g : Option (Nat × Bool)} {x y : Operand} {p : Bool} (hx : ev l x = some (.bool p)) (hy : ev l y = some (.bool p)) (ht : P.underlying t = some .bool) : Ex P ⟨d, .binOp .eql t x y ty2, ty, pos, af, g⟩ l w (.bool true) w := by
  have h := x_eqlb (w := w) (d := d) (ty := ty) (pos := pos) (af := af) (g := g) (ty2 := ty2) hx hy ht
  rwa [show (p == p) = true by cases p <;> rfl] at h
theorem same_self (w : World) (A : Option Addr) (c : Nat) (a : List Int) (HA : RowG encI 1 w A a) (A2 : Option Addr) (c2 : Nat) (HB : RowG encI 1 w A2 a) (ha : a.length ≤ 100000) : Cl Try.prog 11 [.slice A a.length c, .slice A2 a.length c2] w (fun v w' => v = .bool true ∧ Fr [] w w') := (same_c w A c a HA A2 c2 a HB ha).mono (fun v w' ⟨e, f⟩ => ⟨e.trans (congrArg Value.bool (decide_eq_true rfl)), f⟩)
theorem samedeeds_self (w : World) (A : Option Addr) (c : Nat) (a : List D) (HA : RowG encD 6 w A a) (A2 : Option Addr) (c2 : Nat) (HB : RowG encD 6 w A2 a) (ha : a.length ≤ 100000) : Cl Try.prog 22 [.slice A a.length c, .slice A2 a.length c2] w (fun v w' => v = .bool true ∧ Fr [] w w') := (samedeeds_c w A c a HA A2 c2 a HB ha).mono (fun v w' ⟨e, f⟩ => ⟨e.trans (congrArg Value.bool (decide_eq_true rfl)), f⟩)
theorem order_len {l : List D} {a : List Int} (hH : Hist l) (h : (orderR l).1 = some a) : a.length ≤ 24 := by
  obtain ⟨hr, ho⟩ := order_right hH h
  have := okRow_len ho (fit_mem hr.1)
  have := hH.1
  omega
theorem order_len' (l : List D) : ((orderR l).1.getD []).length ≤ 24 := by
  cases h : (orderR l).1 with
  | none => simp
  | some a =>
    by_cases hH : Hist l
    · exact order_len hH h
    · rw [orderR_no hH] at h; cases h
theorem play_len' (l : List D) (row : List Int) : ((playR l row).1.getD []).length ≤ row.length := by
  cases h : (playR l row).1 with
  | none => simp
  | some q =>
    unfold playR at h
    split at h
    · cases h
    · split at h
      · have := qplay_len _ h
        simp only [prow, List.length_map, List.length_nil] at this
        show q.length ≤ _
        omega
      · cases h

theorem orders_core (w : World) (A : Option Addr) (c : Nat) (l : List D) (HR : RowG encD 6 w A l) (hcp : l.length ≤ c) : Cl Try.prog 3 [.slice A l.length c] w (fun v w' => v = .bool true ∧ Fr [] w w') := by
  have F := Fr.refl [] w
  refine enter Try.func3 rfl Try.ntmps3 rfl ?_
  refine cl_seq rfl ?_
  refine cl_reg rfl ?_
  refine st rfl rfl rfl rfl (x_asg rfl) ?_
  refine rl_end rfl ?_
  refine al_k ?_
  refine cl_seq rfl ?_
  refine cl_reg rfl ?_
  refine st rfl rfl rfl rfl (x_move rfl) ?_
  refine sc rfl rfl rfl rfl (c_fn rfl Try.call8 (few_r _ A c l (HR.fr0 F) 7 (by omega) hcp)) ?_
  rintro _ wf ⟨L, rfl, HL, hL, hL25, hLc, fr⟩
  replace F := F.trans fr
  clear fr
  refine st rfl rfl rfl rfl (x_asg rfl) ?_
  refine rl_end rfl ?_
  refine al_k ?_
  refine cl_seq rfl ?_
  refine cl_reg rfl ?_
  refine st rfl rfl rfl rfl (x_move rfl) ?_
  refine sc rfl rfl rfl rfl (c_fn rfl Try.call9 (Order_c _ A c L HL (by omega))) ?_
  rintro _ w21 ⟨⟨v2, rfl, hs2⟩, fr⟩
  replace F := F.trans fr
  replace HL := HL.fr0 fr
  clear fr
  refine st rfl rfl rfl rfl (x_move rfl) ?_
  refine st rfl rfl rfl rfl (x_ext rfl rfl) ?_
  refine st rfl rfl rfl rfl (x_ext rfl rfl) ?_
  refine st rfl rfl rfl rfl (x_ext rfl rfl) ?_
  refine st rfl rfl rfl rfl (x_asg rfl) ?_
  refine st rfl rfl rfl rfl (x_asg rfl) ?_
  refine st rfl rfl rfl rfl (x_asg rfl) ?_
  refine rl_end rfl ?_
  refine al_k ?_
  refine cl_seq rfl ?_
  refine cl_reg rfl ?_
  refine st rfl rfl rfl rfl (x_move rfl) ?_
  refine sc rfl rfl rfl rfl (c_fn rfl Try.call10 (rOrder_c _ A c L HL (by omega))) ?_
  rintro _ w31 ⟨⟨v3, rfl, hs3⟩, fr⟩
  replace F := F.trans fr
  replace HL := HL.fr0 fr
  replace hs2 := hs2.fr0 fr
  clear fr
  obtain ⟨A4, c4, rfl, HS2, _⟩ := hs2
  obtain ⟨A5, c5, rfl, HS3, _⟩ := hs3
  refine st rfl rfl rfl rfl (x_move rfl) ?_
  refine st rfl rfl rfl rfl (x_ext rfl rfl) ?_
  refine st rfl rfl rfl rfl (x_ext rfl rfl) ?_
  refine st rfl rfl rfl rfl (x_ext rfl rfl) ?_
  refine st rfl rfl rfl rfl (x_asg rfl) ?_
  refine st rfl rfl rfl rfl (x_asg rfl) ?_
  refine st rfl rfl rfl rfl (x_asg rfl) ?_
  refine rl_end rfl ?_
  refine al_k ?_
  refine cl_seq rfl ?_
  refine cl_reg rfl ?_
  refine st rfl rfl rfl rfl (x_move rfl) ?_
  refine st rfl rfl rfl rfl (x_move rfl) ?_
  refine sc rfl rfl rfl rfl (c_fn rfl Try.call11 (same_self _ A4 c4 _ HS2 A5 c5 HS3 (by have := order_len' L; omega))) ?_
  rintro _ w42 ⟨rfl, fr⟩
  replace F := F.trans fr
  replace HL := HL.fr0 fr
  clear fr
  refine st rfl rfl rfl rfl (x_move rfl) ?_
  refine st rfl rfl rfl rfl (x_move rfl) ?_
  refine st rfl rfl rfl rfl (x_move rfl) ?_
  refine st rfl rfl rfl rfl (x_eqlbs rfl rfl Try.underlying4) ?_
  refine st rfl rfl rfl rfl (x_pick1 rfl rfl) ?_
  refine st rfl rfl rfl rfl (x_move rfl) ?_
  refine st rfl rfl rfl rfl (x_move rfl) ?_
  refine st rfl rfl rfl rfl (x_move rfl) ?_
  refine st rfl rfl rfl rfl ((x_eql rfl rfl).b1 rfl) ?_
  refine st rfl rfl rfl rfl (x_pick1 rfl rfl) ?_
  refine st rfl rfl rfl rfl (x_move rfl) ?_
  refine sc rfl rfl rfl rfl (c_fn rfl Try.call12 (alive_c _)) ?_
  rintro _ w414 ⟨rfl, fr⟩
  replace F := F.trans fr
  replace HL := HL.fr0 fr
  clear fr
  refine st rfl rfl rfl rfl (x_pick1 rfl rfl) ?_
  refine st rfl rfl rfl rfl (x_asg rfl) ?_
  refine rl_end rfl ?_
  refine al_k ?_
  refine cl_ret rfl ?_
  refine fin1 rfl rfl ?_
  exact ⟨rfl, F⟩

theorem orders_c (W : World) (a : Option Addr) (len cap : Nat) (hlen : len ≤ 9223372036854775807) (hf : ∀ j : Nat, j < len → ∃ (x : Addr) (z0 : Int) (z1 : Int) (z2 : Int) (z3 : Int) (z4 : Int) (z5 : Bool), a = some x ∧ (∀ i v, [(.int .i64 z0 : Value), .int .i64 z1, .int .u64 z2, .int .i64 z3, .int .i64 z4, .bool z5][i]? = some v → W.cell? ((x.add (((j : Nat) : Int).toNat * 6)).add i) = some v) ∧ (Lit.int .i64 z0).wf = true ∧ (Lit.int .i64 z1).wf = true ∧ (Lit.int .u64 z2).wf = true ∧ (Lit.int .i64 z3).wf = true ∧ (Lit.int .i64 z4).wf = true) (hq : len ≤ cap) : Cl Try.prog 3 [.slice a len cap] W (fun v W' => v = .bool true ∧ Fr [] W W') := by
  obtain ⟨l, rfl, HR, _⟩ := rowD_in hf
  exact orders_core W a cap l HR hq

theorem finds_core (w : World) (A : Option Addr) (c : Nat) (l : List D) (HR : RowG encD 6 w A l) (hcp : l.length ≤ c) (A2 : Option Addr) (c2 : Nat) (row : List Int) (HI : RowG encI 1 w A2 row) (hcr : row.length ≤ c2) : Cl Try.prog 4 [.slice A l.length c, .slice A2 row.length c2] w (fun v w' => v = .bool true ∧ Fr [] w w') := by
  have F := Fr.refl [] w
  refine enter Try.func4 rfl Try.ntmps4 rfl ?_
  refine cl_seq rfl ?_
  refine cl_reg rfl ?_
  refine st rfl rfl rfl rfl (x_asg rfl) ?_
  refine rl_end rfl ?_
  refine al_k ?_
  refine cl_seq rfl ?_
  refine cl_reg rfl ?_
  refine st rfl rfl rfl rfl (x_move rfl) ?_
  refine sc rfl rfl rfl rfl (c_fn rfl Try.call8 (few_r _ A c l (HR.fr0 F) 14 (by omega) hcp)) ?_
  rintro _ wf ⟨L, rfl, HL, hL, hL25, hLc, fr⟩
  replace F := F.trans fr
  clear fr
  refine st rfl rfl rfl rfl (x_asg rfl) ?_
  refine rl_end rfl ?_
  refine al_k ?_
  refine cl_seq rfl ?_
  refine cl_seq rfl ?_
  refine cl_reg rfl ?_
  refine st rfl rfl rfl rfl (x_move rfl) ?_
  refine st rfl rfl rfl rfl (x_len rfl Try.underlying24) ?_
  refine sf rfl rfl rfl rfl (x_gtr rfl rfl) (fun c2_2 => ?_) (fun c2_2 => ?_)
  · skip
    refine rl_end rfl ?_
    refine al_k ?_
    refine cl_if1 rfl rfl ?_
    refine cl_reg rfl ?_
    refine st rfl rfl rfl rfl (x_move rfl) ?_
    refine st rfl rfl rfl rfl (x_slt (m := (row.take 40).length) rfl rfl Try.underlying24 Try.sizeOf3 (by omega) (by rw [List.length_take]; omega)) ?_
    have HI4 := HI.take 40
    have hr40 : (row.take 40).length ≤ 40 := by rw [List.length_take]; omega
    have hcr4 : (row.take 40).length ≤ c2 := by rw [List.length_take]; omega
    clear HI hcr c2_2
    generalize row.take 40 = row at *
    rename RowG encI 1 _ A2 row => HI
    rename row.length ≤ c2 => hcr
    refine st rfl rfl rfl rfl (x_asg rfl) ?_
    refine rl_end rfl ?_
    refine al_k ?_
    refine cl_seq rfl ?_
    have hr40 : row.length ≤ 40 := by omega
    refine cl_reg rfl ?_
    refine st rfl rfl rfl rfl (x_move rfl) ?_
    refine sc rfl rfl rfl rfl (c_fn rfl Try.call9 (Order_c _ A c L HL (by omega))) ?_
    rintro _ w41 ⟨⟨v4, rfl, hs4⟩, fr⟩
    replace F := F.trans fr
    replace HL := HL.fr0 fr
    clear fr
    refine st rfl rfl rfl rfl (x_move rfl) ?_
    refine st rfl rfl rfl rfl (x_ext rfl rfl) ?_
    refine st rfl rfl rfl rfl (x_ext rfl rfl) ?_
    cases hf4_4 : ((orderR L).1.isSome)
    · skip
      refine st rfl rfl rfl rfl (x_ext rfl rfl) ?_
      refine st rfl rfl rfl rfl (x_asg rfl) ?_
      refine st rfl rfl rfl rfl (x_asg rfl) ?_
      refine st rfl rfl rfl rfl (x_asg rfl) ?_
      refine rl_end rfl ?_
      refine al_k ?_
      refine cl_seq rfl ?_
      refine cl_seq rfl ?_
      refine cl_reg rfl ?_
      refine st rfl rfl rfl rfl (x_move rfl) ?_
      refine sf rfl rfl rfl rfl (x_neq rfl rfl) (fun c5_1 => ?_) (fun c5_1 => ?_)
      · skip
        refine rl_end rfl ?_
        refine al_k ?_
        refine cl_if1 rfl rfl ?_
        refine cl_seq rfl ?_
        refine cl_reg rfl ?_
        refine st rfl rfl rfl rfl (x_move rfl) ?_
        refine sc rfl rfl rfl rfl (c_fn rfl Try.call13 (rcheck_c _ A c L HL (by omega))) ?_
        rintro _ w61 ⟨rfl, fr⟩
        replace F := F.trans fr
        replace HL := HL.fr0 fr
        replace hs4 := hs4.fr0 fr
        clear fr
        refine st rfl rfl rfl rfl ((x_neq rfl rfl).b1 (by rw [orderR_err] at c5_1; exact c5_1)) ?_
        refine st rfl rfl rfl rfl (x_move rfl) ?_
        refine sc rfl rfl rfl rfl (c_fn rfl Try.call12 (alive_c _)) ?_
        rintro _ w64 ⟨rfl, fr⟩
        replace F := F.trans fr
        replace HL := HL.fr0 fr
        replace hs4 := hs4.fr0 fr
        clear fr
        refine st rfl rfl rfl rfl (x_pick1 rfl rfl) ?_
        refine st rfl rfl rfl rfl (x_asg rfl) ?_
        refine rl_end rfl ?_
        refine al_k ?_
        refine cl_ret rfl ?_
        refine fin1 rfl rfl ?_
        exact ⟨rfl, F⟩
      · skip
        refine rl_end rfl ?_
        refine al_k ?_
        refine cl_if0 rfl rfl ?_
        refine cl_skip rfl ?_
        refine al_k ?_
        refine cl_seq rfl ?_
        refine cl_seq rfl ?_
        have hH : Hist L := Decidable.by_contra (fun h => by rw [orderR_err, if_neg h] at c5_1; exact c5_1 (by decide))
        refine cl_reg rfl ?_
        refine st rfl rfl rfl rfl (x_move rfl) ?_
        refine rl_end rfl ?_
        refine al_k ?_
        refine cl_if0 rfl rfl ?_
        refine cl_skip rfl ?_
        refine al_k ?_
        refine cl_seq rfl ?_
        refine cl_reg rfl ?_
        refine st rfl rfl rfl rfl (x_move rfl) ?_
        refine st rfl rfl rfl rfl (x_move rfl) ?_
        refine sc rfl rfl rfl rfl (c_fn rfl Try.call14 (rRight_c _ A c L HL A2 c2 row (HI.fr0 F) (by omega) (by omega) hcr)) ?_
        rintro _ w112 ⟨rfl, fr⟩
        replace F := F.trans fr
        replace HL := HL.fr0 fr
        replace hs4 := hs4.fr0 fr
        clear fr
        have hno : (rightR L row).1 = false := by
          cases hx : (rightR L row).1 with
          | false => rfl
          | true =>
            obtain ⟨h1, h2, h3⟩ := right_of hx
            obtain ⟨a, h4, _⟩ := order_finds h1 h2 h3
            rw [h4] at hf4_4; cases hf4_4
        rw [hno]
        refine st rfl rfl rfl rfl (x_move rfl) ?_
        refine st rfl rfl rfl rfl (x_ext rfl rfl) ?_
        refine st rfl rfl rfl rfl (x_ext rfl rfl) ?_
        refine st rfl rfl rfl rfl (x_asg rfl) ?_
        refine st rfl rfl rfl rfl (x_asg rfl) ?_
        refine rl_end rfl ?_
        refine al_k ?_
        refine cl_seq rfl ?_
        refine cl_reg rfl ?_
        refine st rfl rfl rfl rfl (x_move rfl) ?_
        refine sf rfl rfl rfl rfl (x_neq rfl rfl) (fun c12_1 => ?_) (fun c12_1 => ?_)
        · skip
          refine st rfl rfl rfl rfl (x_move rfl) ?_
          refine so rfl rfl rfl rfl ?_
          refine so rfl rfl rfl rfl ?_
          refine st rfl rfl rfl rfl (x_pick1 rfl rfl) ?_
          refine st rfl rfl rfl rfl (x_move rfl) ?_
          refine so rfl rfl rfl rfl ?_
          refine so rfl rfl rfl rfl ?_
          refine so rfl rfl rfl rfl ?_
          refine so rfl rfl rfl rfl ?_
          refine so rfl rfl rfl rfl ?_
          refine so rfl rfl rfl rfl ?_
          refine so rfl rfl rfl rfl ?_
          refine st rfl rfl rfl rfl (x_pick1 rfl rfl) ?_
          refine st rfl rfl rfl rfl (x_move rfl) ?_
          refine sc rfl rfl rfl rfl (c_fn rfl Try.call12 (alive_c _)) ?_
          rintro _ w1216 ⟨rfl, fr⟩
          replace F := F.trans fr
          replace HL := HL.fr0 fr
          replace hs4 := hs4.fr0 fr
          clear fr
          refine st rfl rfl rfl rfl (x_pick1 rfl rfl) ?_
          refine st rfl rfl rfl rfl (x_asg rfl) ?_
          refine rl_end rfl ?_
          refine al_k ?_
          refine cl_ret rfl ?_
          refine fin1 rfl rfl ?_
          exact ⟨rfl, F⟩
        · skip
          refine st rfl rfl rfl rfl (x_move rfl) ?_
          refine st rfl rfl rfl rfl (x_move rfl) ?_
          refine st rfl rfl rfl rfl (x_not0 rfl) ?_
          refine st rfl rfl rfl rfl (x_pick0 rfl rfl) ?_
          refine st rfl rfl rfl rfl (x_move rfl) ?_
          refine so rfl rfl rfl rfl ?_
          refine so rfl rfl rfl rfl ?_
          refine so rfl rfl rfl rfl ?_
          refine so rfl rfl rfl rfl ?_
          refine so rfl rfl rfl rfl ?_
          refine so rfl rfl rfl rfl ?_
          refine so rfl rfl rfl rfl ?_
          refine st rfl rfl rfl rfl (x_pick1 rfl rfl) ?_
          refine st rfl rfl rfl rfl (x_move rfl) ?_
          refine sc rfl rfl rfl rfl (c_fn rfl Try.call12 (alive_c _)) ?_
          rintro _ w1216 ⟨rfl, fr⟩
          replace F := F.trans fr
          replace HL := HL.fr0 fr
          replace hs4 := hs4.fr0 fr
          clear fr
          refine st rfl rfl rfl rfl (x_pick1 rfl rfl) ?_
          refine st rfl rfl rfl rfl (x_asg rfl) ?_
          refine rl_end rfl ?_
          refine al_k ?_
          refine cl_ret rfl ?_
          refine fin1 rfl rfl ?_
          exact ⟨rfl, F⟩
    · skip
      refine st rfl rfl rfl rfl (x_ext rfl rfl) ?_
      refine st rfl rfl rfl rfl (x_asg rfl) ?_
      refine st rfl rfl rfl rfl (x_asg rfl) ?_
      refine st rfl rfl rfl rfl (x_asg rfl) ?_
      refine rl_end rfl ?_
      refine al_k ?_
      refine cl_seq rfl ?_
      refine cl_seq rfl ?_
      refine cl_reg rfl ?_
      refine st rfl rfl rfl rfl (x_move rfl) ?_
      refine sf rfl rfl rfl rfl (x_neq rfl rfl) (fun c5_1 => ?_) (fun c5_1 => ?_)
      · skip
        refine rl_end rfl ?_
        refine al_k ?_
        refine cl_if1 rfl rfl ?_
        refine cl_seq rfl ?_
        refine cl_reg rfl ?_
        refine st rfl rfl rfl rfl (x_move rfl) ?_
        refine sc rfl rfl rfl rfl (c_fn rfl Try.call13 (rcheck_c _ A c L HL (by omega))) ?_
        rintro _ w61 ⟨rfl, fr⟩
        replace F := F.trans fr
        replace HL := HL.fr0 fr
        replace hs4 := hs4.fr0 fr
        clear fr
        refine st rfl rfl rfl rfl ((x_neq rfl rfl).b1 (by rw [orderR_err] at c5_1; exact c5_1)) ?_
        refine st rfl rfl rfl rfl (x_move rfl) ?_
        refine sc rfl rfl rfl rfl (c_fn rfl Try.call12 (alive_c _)) ?_
        rintro _ w64 ⟨rfl, fr⟩
        replace F := F.trans fr
        replace HL := HL.fr0 fr
        replace hs4 := hs4.fr0 fr
        clear fr
        refine st rfl rfl rfl rfl (x_pick1 rfl rfl) ?_
        refine st rfl rfl rfl rfl (x_asg rfl) ?_
        refine rl_end rfl ?_
        refine al_k ?_
        refine cl_ret rfl ?_
        refine fin1 rfl rfl ?_
        exact ⟨rfl, F⟩
      · skip
        refine rl_end rfl ?_
        refine al_k ?_
        refine cl_if0 rfl rfl ?_
        refine cl_skip rfl ?_
        refine al_k ?_
        refine cl_seq rfl ?_
        refine cl_seq rfl ?_
        have hH : Hist L := Decidable.by_contra (fun h => by rw [orderR_err, if_neg h] at c5_1; exact c5_1 (by decide))
        refine cl_reg rfl ?_
        refine st rfl rfl rfl rfl (x_move rfl) ?_
        refine rl_end rfl ?_
        refine al_k ?_
        refine cl_if1 rfl rfl ?_
        refine cl_seq rfl ?_
        obtain ⟨a, ha⟩ := some_of hf4_4
        have hra := order_right hH ha
        rw [ha] at hs4
        obtain ⟨A4, c4, rfl, HA4, hc4⟩ := hs4
        refine cl_reg rfl ?_
        refine st rfl rfl rfl rfl (x_move rfl) ?_
        refine st rfl rfl rfl rfl (x_move rfl) ?_
        refine sc rfl rfl rfl rfl (c_fn rfl Try.call14 (rRight_c _ A c L HL A4 c4 a HA4 (by omega) (by have := order_len hH ha; omega) hc4)) ?_
        rintro _ w82 ⟨rfl, fr⟩
        replace F := F.trans fr
        replace HL := HL.fr0 fr
        replace HA4 := HA4.fr0 fr
        clear fr
        rw [rightR_ok hH hra.2, dc_true hra.1]
        refine st rfl rfl rfl rfl (x_move rfl) ?_
        refine st rfl rfl rfl rfl (x_ext rfl rfl) ?_
        refine st rfl rfl rfl rfl (x_ext rfl rfl) ?_
        refine st rfl rfl rfl rfl (x_asg rfl) ?_
        refine st rfl rfl rfl rfl (x_asg rfl) ?_
        refine rl_end rfl ?_
        refine al_k ?_
        refine cl_seq rfl ?_
        refine cl_reg rfl ?_
        refine st rfl rfl rfl rfl (x_move rfl) ?_
        refine st rfl rfl rfl rfl ((x_neq rfl rfl).b0 (fun h => h rfl)) ?_
        refine st rfl rfl rfl rfl (x_move rfl) ?_
        refine st rfl rfl rfl rfl (x_move rfl) ?_
        refine st rfl rfl rfl rfl (x_not1 rfl) ?_
        refine st rfl rfl rfl rfl (x_pick0 rfl rfl) ?_
        refine rl_end rfl ?_
        refine al_k ?_
        refine cl_if0 rfl rfl ?_
        refine cl_skip rfl ?_
        refine al_k ?_
        refine cl_seq rfl ?_
        refine cl_reg rfl ?_
        refine st rfl rfl rfl rfl (x_move rfl) ?_
        refine st rfl rfl rfl rfl (x_move rfl) ?_
        refine sc rfl rfl rfl rfl (c_fn rfl Try.call14 (rRight_c _ A c L HL A2 c2 row (HI.fr0 F) (by omega) (by omega) hcr)) ?_
        rintro _ w112 ⟨rfl, fr⟩
        replace F := F.trans fr
        replace HL := HL.fr0 fr
        replace HA4 := HA4.fr0 fr
        clear fr
        refine st rfl rfl rfl rfl (x_move rfl) ?_
        refine st rfl rfl rfl rfl (x_ext rfl rfl) ?_
        cases hf11_4 : ((rightR L row).1)
        · skip
          refine st rfl rfl rfl rfl (x_ext rfl rfl) ?_
          refine st rfl rfl rfl rfl (x_asg rfl) ?_
          refine st rfl rfl rfl rfl (x_asg rfl) ?_
          refine rl_end rfl ?_
          refine al_k ?_
          refine cl_seq rfl ?_
          refine cl_reg rfl ?_
          refine st rfl rfl rfl rfl (x_move rfl) ?_
          refine sf rfl rfl rfl rfl (x_neq rfl rfl) (fun c12_1 => ?_) (fun c12_1 => ?_)
          · skip
            refine st rfl rfl rfl rfl (x_move rfl) ?_
            refine so rfl rfl rfl rfl ?_
            refine so rfl rfl rfl rfl ?_
            refine st rfl rfl rfl rfl (x_pick1 rfl rfl) ?_
            refine st rfl rfl rfl rfl (x_move rfl) ?_
            refine so rfl rfl rfl rfl ?_
            refine so rfl rfl rfl rfl ?_
            refine so rfl rfl rfl rfl ?_
            refine so rfl rfl rfl rfl ?_
            refine so rfl rfl rfl rfl ?_
            refine so rfl rfl rfl rfl ?_
            refine so rfl rfl rfl rfl ?_
            refine st rfl rfl rfl rfl (x_pick1 rfl rfl) ?_
            refine st rfl rfl rfl rfl (x_move rfl) ?_
            refine sc rfl rfl rfl rfl (c_fn rfl Try.call12 (alive_c _)) ?_
            rintro _ w1216 ⟨rfl, fr⟩
            replace F := F.trans fr
            replace HL := HL.fr0 fr
            replace HA4 := HA4.fr0 fr
            clear fr
            refine st rfl rfl rfl rfl (x_pick1 rfl rfl) ?_
            refine st rfl rfl rfl rfl (x_asg rfl) ?_
            refine rl_end rfl ?_
            refine al_k ?_
            refine cl_ret rfl ?_
            refine fin1 rfl rfl ?_
            exact ⟨rfl, F⟩
          · skip
            refine st rfl rfl rfl rfl (x_move rfl) ?_
            refine st rfl rfl rfl rfl (x_move rfl) ?_
            refine st rfl rfl rfl rfl (x_not0 rfl) ?_
            refine st rfl rfl rfl rfl (x_pick0 rfl rfl) ?_
            refine st rfl rfl rfl rfl (x_move rfl) ?_
            refine so rfl rfl rfl rfl ?_
            refine so rfl rfl rfl rfl ?_
            refine so rfl rfl rfl rfl ?_
            refine so rfl rfl rfl rfl ?_
            refine so rfl rfl rfl rfl ?_
            refine so rfl rfl rfl rfl ?_
            refine so rfl rfl rfl rfl ?_
            refine st rfl rfl rfl rfl (x_pick1 rfl rfl) ?_
            refine st rfl rfl rfl rfl (x_move rfl) ?_
            refine sc rfl rfl rfl rfl (c_fn rfl Try.call12 (alive_c _)) ?_
            rintro _ w1216 ⟨rfl, fr⟩
            replace F := F.trans fr
            replace HL := HL.fr0 fr
            replace HA4 := HA4.fr0 fr
            clear fr
            refine st rfl rfl rfl rfl (x_pick1 rfl rfl) ?_
            refine st rfl rfl rfl rfl (x_asg rfl) ?_
            refine rl_end rfl ?_
            refine al_k ?_
            refine cl_ret rfl ?_
            refine fin1 rfl rfl ?_
            exact ⟨rfl, F⟩
        · skip
          refine st rfl rfl rfl rfl (x_ext rfl rfl) ?_
          refine st rfl rfl rfl rfl (x_asg rfl) ?_
          refine st rfl rfl rfl rfl (x_asg rfl) ?_
          refine rl_end rfl ?_
          refine al_k ?_
          refine cl_seq rfl ?_
          refine cl_reg rfl ?_
          refine st rfl rfl rfl rfl (x_move rfl) ?_
          refine sf rfl rfl rfl rfl (x_neq rfl rfl) (fun c12_1 => ?_) (fun c12_1 => ?_)
          · skip
            refine st rfl rfl rfl rfl (x_move rfl) ?_
            refine so rfl rfl rfl rfl ?_
            refine so rfl rfl rfl rfl ?_
            refine st rfl rfl rfl rfl (x_pick1 rfl rfl) ?_
            refine st rfl rfl rfl rfl (x_move rfl) ?_
            refine so rfl rfl rfl rfl ?_
            refine so rfl rfl rfl rfl ?_
            refine so rfl rfl rfl rfl ?_
            refine so rfl rfl rfl rfl ?_
            refine so rfl rfl rfl rfl ?_
            refine so rfl rfl rfl rfl ?_
            refine so rfl rfl rfl rfl ?_
            refine st rfl rfl rfl rfl (x_pick1 rfl rfl) ?_
            refine st rfl rfl rfl rfl (x_move rfl) ?_
            refine sc rfl rfl rfl rfl (c_fn rfl Try.call12 (alive_c _)) ?_
            rintro _ w1216 ⟨rfl, fr⟩
            replace F := F.trans fr
            replace HL := HL.fr0 fr
            replace HA4 := HA4.fr0 fr
            clear fr
            refine st rfl rfl rfl rfl (x_pick1 rfl rfl) ?_
            refine st rfl rfl rfl rfl (x_asg rfl) ?_
            refine rl_end rfl ?_
            refine al_k ?_
            refine cl_ret rfl ?_
            refine fin1 rfl rfl ?_
            exact ⟨rfl, F⟩
          · skip
            refine st rfl rfl rfl rfl (x_move rfl) ?_
            refine st rfl rfl rfl rfl (x_move rfl) ?_
            refine st rfl rfl rfl rfl (x_not1 rfl) ?_
            refine st rfl rfl rfl rfl (x_pick0 rfl rfl) ?_
            refine st rfl rfl rfl rfl (x_move rfl) ?_
            refine st rfl rfl rfl rfl (x_move rfl) ?_
            refine st rfl rfl rfl rfl (x_move rfl) ?_
            refine st rfl rfl rfl rfl (x_move rfl) ?_
            refine st rfl rfl rfl rfl (x_move rfl) ?_
            refine sc rfl rfl rfl rfl (c_fn rfl Try.call15 (less_c _ A2 c2 row (HI.fr0 F) A4 c4 a HA4 (by omega) (by have := order_len hH ha; omega))) ?_
            rintro _ w1211 ⟨rfl, fr⟩
            replace F := F.trans fr
            replace HL := HL.fr0 fr
            replace HA4 := HA4.fr0 fr
            clear fr
            have hless : lessB row a = false := by
              obtain ⟨h1, h2, h3⟩ := right_of hf11_4
              obtain ⟨a2, h4, h5⟩ := order_finds h1 h2 h3
              rw [ha] at h4
              injection h4 with h4
              subst h4
              exact h5
            rw [hless]
            refine st rfl rfl rfl rfl (x_not0 rfl) ?_
            refine st rfl rfl rfl rfl (x_pick1 rfl rfl) ?_
            refine st rfl rfl rfl rfl (x_pick0 rfl rfl) ?_
            refine st rfl rfl rfl rfl (x_move rfl) ?_
            refine sc rfl rfl rfl rfl (c_fn rfl Try.call12 (alive_c _)) ?_
            rintro _ w1216 ⟨rfl, fr⟩
            replace F := F.trans fr
            replace HL := HL.fr0 fr
            replace HA4 := HA4.fr0 fr
            clear fr
            refine st rfl rfl rfl rfl (x_pick1 rfl rfl) ?_
            refine st rfl rfl rfl rfl (x_asg rfl) ?_
            refine rl_end rfl ?_
            refine al_k ?_
            refine cl_ret rfl ?_
            refine fin1 rfl rfl ?_
            exact ⟨rfl, F⟩
  · skip
    refine rl_end rfl ?_
    refine al_k ?_
    refine cl_if0 rfl rfl ?_
    refine cl_skip rfl ?_
    refine al_k ?_
    refine cl_seq rfl ?_
    have hr40 : row.length ≤ 40 := by omega
    refine cl_reg rfl ?_
    refine st rfl rfl rfl rfl (x_move rfl) ?_
    refine sc rfl rfl rfl rfl (c_fn rfl Try.call9 (Order_c _ A c L HL (by omega))) ?_
    rintro _ w41 ⟨⟨v4, rfl, hs4⟩, fr⟩
    replace F := F.trans fr
    replace HL := HL.fr0 fr
    clear fr
    refine st rfl rfl rfl rfl (x_move rfl) ?_
    refine st rfl rfl rfl rfl (x_ext rfl rfl) ?_
    refine st rfl rfl rfl rfl (x_ext rfl rfl) ?_
    cases hf4_4 : ((orderR L).1.isSome)
    · skip
      refine st rfl rfl rfl rfl (x_ext rfl rfl) ?_
      refine st rfl rfl rfl rfl (x_asg rfl) ?_
      refine st rfl rfl rfl rfl (x_asg rfl) ?_
      refine st rfl rfl rfl rfl (x_asg rfl) ?_
      refine rl_end rfl ?_
      refine al_k ?_
      refine cl_seq rfl ?_
      refine cl_seq rfl ?_
      refine cl_reg rfl ?_
      refine st rfl rfl rfl rfl (x_move rfl) ?_
      refine sf rfl rfl rfl rfl (x_neq rfl rfl) (fun c5_1 => ?_) (fun c5_1 => ?_)
      · skip
        refine rl_end rfl ?_
        refine al_k ?_
        refine cl_if1 rfl rfl ?_
        refine cl_seq rfl ?_
        refine cl_reg rfl ?_
        refine st rfl rfl rfl rfl (x_move rfl) ?_
        refine sc rfl rfl rfl rfl (c_fn rfl Try.call13 (rcheck_c _ A c L HL (by omega))) ?_
        rintro _ w61 ⟨rfl, fr⟩
        replace F := F.trans fr
        replace HL := HL.fr0 fr
        replace hs4 := hs4.fr0 fr
        clear fr
        refine st rfl rfl rfl rfl ((x_neq rfl rfl).b1 (by rw [orderR_err] at c5_1; exact c5_1)) ?_
        refine st rfl rfl rfl rfl (x_move rfl) ?_
        refine sc rfl rfl rfl rfl (c_fn rfl Try.call12 (alive_c _)) ?_
        rintro _ w64 ⟨rfl, fr⟩
        replace F := F.trans fr
        replace HL := HL.fr0 fr
        replace hs4 := hs4.fr0 fr
        clear fr
        refine st rfl rfl rfl rfl (x_pick1 rfl rfl) ?_
        refine st rfl rfl rfl rfl (x_asg rfl) ?_
        refine rl_end rfl ?_
        refine al_k ?_
        refine cl_ret rfl ?_
        refine fin1 rfl rfl ?_
        exact ⟨rfl, F⟩
      · skip
        refine rl_end rfl ?_
        refine al_k ?_
        refine cl_if0 rfl rfl ?_
        refine cl_skip rfl ?_
        refine al_k ?_
        refine cl_seq rfl ?_
        refine cl_seq rfl ?_
        have hH : Hist L := Decidable.by_contra (fun h => by rw [orderR_err, if_neg h] at c5_1; exact c5_1 (by decide))
        refine cl_reg rfl ?_
        refine st rfl rfl rfl rfl (x_move rfl) ?_
        refine rl_end rfl ?_
        refine al_k ?_
        refine cl_if0 rfl rfl ?_
        refine cl_skip rfl ?_
        refine al_k ?_
        refine cl_seq rfl ?_
        refine cl_reg rfl ?_
        refine st rfl rfl rfl rfl (x_move rfl) ?_
        refine st rfl rfl rfl rfl (x_move rfl) ?_
        refine sc rfl rfl rfl rfl (c_fn rfl Try.call14 (rRight_c _ A c L HL A2 c2 row (HI.fr0 F) (by omega) (by omega) hcr)) ?_
        rintro _ w112 ⟨rfl, fr⟩
        replace F := F.trans fr
        replace HL := HL.fr0 fr
        replace hs4 := hs4.fr0 fr
        clear fr
        have hno : (rightR L row).1 = false := by
          cases hx : (rightR L row).1 with
          | false => rfl
          | true =>
            obtain ⟨h1, h2, h3⟩ := right_of hx
            obtain ⟨a, h4, _⟩ := order_finds h1 h2 h3
            rw [h4] at hf4_4; cases hf4_4
        rw [hno]
        refine st rfl rfl rfl rfl (x_move rfl) ?_
        refine st rfl rfl rfl rfl (x_ext rfl rfl) ?_
        refine st rfl rfl rfl rfl (x_ext rfl rfl) ?_
        refine st rfl rfl rfl rfl (x_asg rfl) ?_
        refine st rfl rfl rfl rfl (x_asg rfl) ?_
        refine rl_end rfl ?_
        refine al_k ?_
        refine cl_seq rfl ?_
        refine cl_reg rfl ?_
        refine st rfl rfl rfl rfl (x_move rfl) ?_
        refine sf rfl rfl rfl rfl (x_neq rfl rfl) (fun c12_1 => ?_) (fun c12_1 => ?_)
        · skip
          refine st rfl rfl rfl rfl (x_move rfl) ?_
          refine so rfl rfl rfl rfl ?_
          refine so rfl rfl rfl rfl ?_
          refine st rfl rfl rfl rfl (x_pick1 rfl rfl) ?_
          refine st rfl rfl rfl rfl (x_move rfl) ?_
          refine so rfl rfl rfl rfl ?_
          refine so rfl rfl rfl rfl ?_
          refine so rfl rfl rfl rfl ?_
          refine so rfl rfl rfl rfl ?_
          refine so rfl rfl rfl rfl ?_
          refine so rfl rfl rfl rfl ?_
          refine so rfl rfl rfl rfl ?_
          refine st rfl rfl rfl rfl (x_pick1 rfl rfl) ?_
          refine st rfl rfl rfl rfl (x_move rfl) ?_
          refine sc rfl rfl rfl rfl (c_fn rfl Try.call12 (alive_c _)) ?_
          rintro _ w1216 ⟨rfl, fr⟩
          replace F := F.trans fr
          replace HL := HL.fr0 fr
          replace hs4 := hs4.fr0 fr
          clear fr
          refine st rfl rfl rfl rfl (x_pick1 rfl rfl) ?_
          refine st rfl rfl rfl rfl (x_asg rfl) ?_
          refine rl_end rfl ?_
          refine al_k ?_
          refine cl_ret rfl ?_
          refine fin1 rfl rfl ?_
          exact ⟨rfl, F⟩
        · skip
          refine st rfl rfl rfl rfl (x_move rfl) ?_
          refine st rfl rfl rfl rfl (x_move rfl) ?_
          refine st rfl rfl rfl rfl (x_not0 rfl) ?_
          refine st rfl rfl rfl rfl (x_pick0 rfl rfl) ?_
          refine st rfl rfl rfl rfl (x_move rfl) ?_
          refine so rfl rfl rfl rfl ?_
          refine so rfl rfl rfl rfl ?_
          refine so rfl rfl rfl rfl ?_
          refine so rfl rfl rfl rfl ?_
          refine so rfl rfl rfl rfl ?_
          refine so rfl rfl rfl rfl ?_
          refine so rfl rfl rfl rfl ?_
          refine st rfl rfl rfl rfl (x_pick1 rfl rfl) ?_
          refine st rfl rfl rfl rfl (x_move rfl) ?_
          refine sc rfl rfl rfl rfl (c_fn rfl Try.call12 (alive_c _)) ?_
          rintro _ w1216 ⟨rfl, fr⟩
          replace F := F.trans fr
          replace HL := HL.fr0 fr
          replace hs4 := hs4.fr0 fr
          clear fr
          refine st rfl rfl rfl rfl (x_pick1 rfl rfl) ?_
          refine st rfl rfl rfl rfl (x_asg rfl) ?_
          refine rl_end rfl ?_
          refine al_k ?_
          refine cl_ret rfl ?_
          refine fin1 rfl rfl ?_
          exact ⟨rfl, F⟩
    · skip
      refine st rfl rfl rfl rfl (x_ext rfl rfl) ?_
      refine st rfl rfl rfl rfl (x_asg rfl) ?_
      refine st rfl rfl rfl rfl (x_asg rfl) ?_
      refine st rfl rfl rfl rfl (x_asg rfl) ?_
      refine rl_end rfl ?_
      refine al_k ?_
      refine cl_seq rfl ?_
      refine cl_seq rfl ?_
      refine cl_reg rfl ?_
      refine st rfl rfl rfl rfl (x_move rfl) ?_
      refine sf rfl rfl rfl rfl (x_neq rfl rfl) (fun c5_1 => ?_) (fun c5_1 => ?_)
      · skip
        refine rl_end rfl ?_
        refine al_k ?_
        refine cl_if1 rfl rfl ?_
        refine cl_seq rfl ?_
        refine cl_reg rfl ?_
        refine st rfl rfl rfl rfl (x_move rfl) ?_
        refine sc rfl rfl rfl rfl (c_fn rfl Try.call13 (rcheck_c _ A c L HL (by omega))) ?_
        rintro _ w61 ⟨rfl, fr⟩
        replace F := F.trans fr
        replace HL := HL.fr0 fr
        replace hs4 := hs4.fr0 fr
        clear fr
        refine st rfl rfl rfl rfl ((x_neq rfl rfl).b1 (by rw [orderR_err] at c5_1; exact c5_1)) ?_
        refine st rfl rfl rfl rfl (x_move rfl) ?_
        refine sc rfl rfl rfl rfl (c_fn rfl Try.call12 (alive_c _)) ?_
        rintro _ w64 ⟨rfl, fr⟩
        replace F := F.trans fr
        replace HL := HL.fr0 fr
        replace hs4 := hs4.fr0 fr
        clear fr
        refine st rfl rfl rfl rfl (x_pick1 rfl rfl) ?_
        refine st rfl rfl rfl rfl (x_asg rfl) ?_
        refine rl_end rfl ?_
        refine al_k ?_
        refine cl_ret rfl ?_
        refine fin1 rfl rfl ?_
        exact ⟨rfl, F⟩
      · skip
        refine rl_end rfl ?_
        refine al_k ?_
        refine cl_if0 rfl rfl ?_
        refine cl_skip rfl ?_
        refine al_k ?_
        refine cl_seq rfl ?_
        refine cl_seq rfl ?_
        have hH : Hist L := Decidable.by_contra (fun h => by rw [orderR_err, if_neg h] at c5_1; exact c5_1 (by decide))
        refine cl_reg rfl ?_
        refine st rfl rfl rfl rfl (x_move rfl) ?_
        refine rl_end rfl ?_
        refine al_k ?_
        refine cl_if1 rfl rfl ?_
        refine cl_seq rfl ?_
        obtain ⟨a, ha⟩ := some_of hf4_4
        have hra := order_right hH ha
        rw [ha] at hs4
        obtain ⟨A4, c4, rfl, HA4, hc4⟩ := hs4
        refine cl_reg rfl ?_
        refine st rfl rfl rfl rfl (x_move rfl) ?_
        refine st rfl rfl rfl rfl (x_move rfl) ?_
        refine sc rfl rfl rfl rfl (c_fn rfl Try.call14 (rRight_c _ A c L HL A4 c4 a HA4 (by omega) (by have := order_len hH ha; omega) hc4)) ?_
        rintro _ w82 ⟨rfl, fr⟩
        replace F := F.trans fr
        replace HL := HL.fr0 fr
        replace HA4 := HA4.fr0 fr
        clear fr
        rw [rightR_ok hH hra.2, dc_true hra.1]
        refine st rfl rfl rfl rfl (x_move rfl) ?_
        refine st rfl rfl rfl rfl (x_ext rfl rfl) ?_
        refine st rfl rfl rfl rfl (x_ext rfl rfl) ?_
        refine st rfl rfl rfl rfl (x_asg rfl) ?_
        refine st rfl rfl rfl rfl (x_asg rfl) ?_
        refine rl_end rfl ?_
        refine al_k ?_
        refine cl_seq rfl ?_
        refine cl_reg rfl ?_
        refine st rfl rfl rfl rfl (x_move rfl) ?_
        refine st rfl rfl rfl rfl ((x_neq rfl rfl).b0 (fun h => h rfl)) ?_
        refine st rfl rfl rfl rfl (x_move rfl) ?_
        refine st rfl rfl rfl rfl (x_move rfl) ?_
        refine st rfl rfl rfl rfl (x_not1 rfl) ?_
        refine st rfl rfl rfl rfl (x_pick0 rfl rfl) ?_
        refine rl_end rfl ?_
        refine al_k ?_
        refine cl_if0 rfl rfl ?_
        refine cl_skip rfl ?_
        refine al_k ?_
        refine cl_seq rfl ?_
        refine cl_reg rfl ?_
        refine st rfl rfl rfl rfl (x_move rfl) ?_
        refine st rfl rfl rfl rfl (x_move rfl) ?_
        refine sc rfl rfl rfl rfl (c_fn rfl Try.call14 (rRight_c _ A c L HL A2 c2 row (HI.fr0 F) (by omega) (by omega) hcr)) ?_
        rintro _ w112 ⟨rfl, fr⟩
        replace F := F.trans fr
        replace HL := HL.fr0 fr
        replace HA4 := HA4.fr0 fr
        clear fr
        refine st rfl rfl rfl rfl (x_move rfl) ?_
        refine st rfl rfl rfl rfl (x_ext rfl rfl) ?_
        cases hf11_4 : ((rightR L row).1)
        · skip
          refine st rfl rfl rfl rfl (x_ext rfl rfl) ?_
          refine st rfl rfl rfl rfl (x_asg rfl) ?_
          refine st rfl rfl rfl rfl (x_asg rfl) ?_
          refine rl_end rfl ?_
          refine al_k ?_
          refine cl_seq rfl ?_
          refine cl_reg rfl ?_
          refine st rfl rfl rfl rfl (x_move rfl) ?_
          refine sf rfl rfl rfl rfl (x_neq rfl rfl) (fun c12_1 => ?_) (fun c12_1 => ?_)
          · skip
            refine st rfl rfl rfl rfl (x_move rfl) ?_
            refine so rfl rfl rfl rfl ?_
            refine so rfl rfl rfl rfl ?_
            refine st rfl rfl rfl rfl (x_pick1 rfl rfl) ?_
            refine st rfl rfl rfl rfl (x_move rfl) ?_
            refine so rfl rfl rfl rfl ?_
            refine so rfl rfl rfl rfl ?_
            refine so rfl rfl rfl rfl ?_
            refine so rfl rfl rfl rfl ?_
            refine so rfl rfl rfl rfl ?_
            refine so rfl rfl rfl rfl ?_
            refine so rfl rfl rfl rfl ?_
            refine st rfl rfl rfl rfl (x_pick1 rfl rfl) ?_
            refine st rfl rfl rfl rfl (x_move rfl) ?_
            refine sc rfl rfl rfl rfl (c_fn rfl Try.call12 (alive_c _)) ?_
            rintro _ w1216 ⟨rfl, fr⟩
            replace F := F.trans fr
            replace HL := HL.fr0 fr
            replace HA4 := HA4.fr0 fr
            clear fr
            refine st rfl rfl rfl rfl (x_pick1 rfl rfl) ?_
            refine st rfl rfl rfl rfl (x_asg rfl) ?_
            refine rl_end rfl ?_
            refine al_k ?_
            refine cl_ret rfl ?_
            refine fin1 rfl rfl ?_
            exact ⟨rfl, F⟩
          · skip
            refine st rfl rfl rfl rfl (x_move rfl) ?_
            refine st rfl rfl rfl rfl (x_move rfl) ?_
            refine st rfl rfl rfl rfl (x_not0 rfl) ?_
            refine st rfl rfl rfl rfl (x_pick0 rfl rfl) ?_
            refine st rfl rfl rfl rfl (x_move rfl) ?_
            refine so rfl rfl rfl rfl ?_
            refine so rfl rfl rfl rfl ?_
            refine so rfl rfl rfl rfl ?_
            refine so rfl rfl rfl rfl ?_
            refine so rfl rfl rfl rfl ?_
            refine so rfl rfl rfl rfl ?_
            refine so rfl rfl rfl rfl ?_
            refine st rfl rfl rfl rfl (x_pick1 rfl rfl) ?_
            refine st rfl rfl rfl rfl (x_move rfl) ?_
            refine sc rfl rfl rfl rfl (c_fn rfl Try.call12 (alive_c _)) ?_
            rintro _ w1216 ⟨rfl, fr⟩
            replace F := F.trans fr
            replace HL := HL.fr0 fr
            replace HA4 := HA4.fr0 fr
            clear fr
            refine st rfl rfl rfl rfl (x_pick1 rfl rfl) ?_
            refine st rfl rfl rfl rfl (x_asg rfl) ?_
            refine rl_end rfl ?_
            refine al_k ?_
            refine cl_ret rfl ?_
            refine fin1 rfl rfl ?_
            exact ⟨rfl, F⟩
        · skip
          refine st rfl rfl rfl rfl (x_ext rfl rfl) ?_
          refine st rfl rfl rfl rfl (x_asg rfl) ?_
          refine st rfl rfl rfl rfl (x_asg rfl) ?_
          refine rl_end rfl ?_
          refine al_k ?_
          refine cl_seq rfl ?_
          refine cl_reg rfl ?_
          refine st rfl rfl rfl rfl (x_move rfl) ?_
          refine sf rfl rfl rfl rfl (x_neq rfl rfl) (fun c12_1 => ?_) (fun c12_1 => ?_)
          · skip
            refine st rfl rfl rfl rfl (x_move rfl) ?_
            refine so rfl rfl rfl rfl ?_
            refine so rfl rfl rfl rfl ?_
            refine st rfl rfl rfl rfl (x_pick1 rfl rfl) ?_
            refine st rfl rfl rfl rfl (x_move rfl) ?_
            refine so rfl rfl rfl rfl ?_
            refine so rfl rfl rfl rfl ?_
            refine so rfl rfl rfl rfl ?_
            refine so rfl rfl rfl rfl ?_
            refine so rfl rfl rfl rfl ?_
            refine so rfl rfl rfl rfl ?_
            refine so rfl rfl rfl rfl ?_
            refine st rfl rfl rfl rfl (x_pick1 rfl rfl) ?_
            refine st rfl rfl rfl rfl (x_move rfl) ?_
            refine sc rfl rfl rfl rfl (c_fn rfl Try.call12 (alive_c _)) ?_
            rintro _ w1216 ⟨rfl, fr⟩
            replace F := F.trans fr
            replace HL := HL.fr0 fr
            replace HA4 := HA4.fr0 fr
            clear fr
            refine st rfl rfl rfl rfl (x_pick1 rfl rfl) ?_
            refine st rfl rfl rfl rfl (x_asg rfl) ?_
            refine rl_end rfl ?_
            refine al_k ?_
            refine cl_ret rfl ?_
            refine fin1 rfl rfl ?_
            exact ⟨rfl, F⟩
          · skip
            refine st rfl rfl rfl rfl (x_move rfl) ?_
            refine st rfl rfl rfl rfl (x_move rfl) ?_
            refine st rfl rfl rfl rfl (x_not1 rfl) ?_
            refine st rfl rfl rfl rfl (x_pick0 rfl rfl) ?_
            refine st rfl rfl rfl rfl (x_move rfl) ?_
            refine st rfl rfl rfl rfl (x_move rfl) ?_
            refine st rfl rfl rfl rfl (x_move rfl) ?_
            refine st rfl rfl rfl rfl (x_move rfl) ?_
            refine st rfl rfl rfl rfl (x_move rfl) ?_
            refine sc rfl rfl rfl rfl (c_fn rfl Try.call15 (less_c _ A2 c2 row (HI.fr0 F) A4 c4 a HA4 (by omega) (by have := order_len hH ha; omega))) ?_
            rintro _ w1211 ⟨rfl, fr⟩
            replace F := F.trans fr
            replace HL := HL.fr0 fr
            replace HA4 := HA4.fr0 fr
            clear fr
            have hless : lessB row a = false := by
              obtain ⟨h1, h2, h3⟩ := right_of hf11_4
              obtain ⟨a2, h4, h5⟩ := order_finds h1 h2 h3
              rw [ha] at h4
              injection h4 with h4
              subst h4
              exact h5
            rw [hless]
            refine st rfl rfl rfl rfl (x_not0 rfl) ?_
            refine st rfl rfl rfl rfl (x_pick1 rfl rfl) ?_
            refine st rfl rfl rfl rfl (x_pick0 rfl rfl) ?_
            refine st rfl rfl rfl rfl (x_move rfl) ?_
            refine sc rfl rfl rfl rfl (c_fn rfl Try.call12 (alive_c _)) ?_
            rintro _ w1216 ⟨rfl, fr⟩
            replace F := F.trans fr
            replace HL := HL.fr0 fr
            replace HA4 := HA4.fr0 fr
            clear fr
            refine st rfl rfl rfl rfl (x_pick1 rfl rfl) ?_
            refine st rfl rfl rfl rfl (x_asg rfl) ?_
            refine rl_end rfl ?_
            refine al_k ?_
            refine cl_ret rfl ?_
            refine fin1 rfl rfl ?_
            exact ⟨rfl, F⟩

theorem finds_c (W : World) (a : Option Addr) (len cap : Nat) (hlen : len ≤ 9223372036854775807) (hf : ∀ j : Nat, j < len → ∃ (x : Addr) (z0 : Int) (z1 : Int) (z2 : Int) (z3 : Int) (z4 : Int) (z5 : Bool), a = some x ∧ (∀ i v, [(.int .i64 z0 : Value), .int .i64 z1, .int .u64 z2, .int .i64 z3, .int .i64 z4, .bool z5][i]? = some v → W.cell? ((x.add (((j : Nat) : Int).toNat * 6)).add i) = some v) ∧ (Lit.int .i64 z0).wf = true ∧ (Lit.int .i64 z1).wf = true ∧ (Lit.int .u64 z2).wf = true ∧ (Lit.int .i64 z3).wf = true ∧ (Lit.int .i64 z4).wf = true) (hq : len ≤ cap) (a2 : Option Addr) (len2 cap2 : Nat) (hlen2 : len2 ≤ 9223372036854775807) (hf2 : ∀ j : Nat, j < len2 → ∃ (x : Addr) (z : Int), a2 = some x ∧ W.cell? (x.add (((j : Nat) : Int).toNat * 1)) = some (.int .i64 z) ∧ (Lit.int .i64 z).wf = true) (hq2 : len2 ≤ cap2) : Cl Try.prog 4 [.slice a len cap, .slice a2 len2 cap2] W (fun v W' => v = .bool true ∧ Fr [] W W') := by
  obtain ⟨l, rfl, HR, _⟩ := rowD_in hf
  obtain ⟨row, rfl, HI⟩ := rowI_in hf2
  exact finds_core W a cap l HR hq a2 cap2 row HI hq2

theorem plays_core (w : World) (A : Option Addr) (c : Nat) (l : List D) (HR : RowG encD 6 w A l) (hcp : l.length ≤ c) (A2 : Option Addr) (c2 : Nat) (row : List Int) (HI : RowG encI 1 w A2 row) (hcr : row.length ≤ c2) (x y : D) : Cl Try.prog 7 [.slice A l.length c, .slice A2 row.length c2, .agg (encD x).toArray, .agg (encD y).toArray] w (fun v w' => v = .bool true ∧ Fr [] w w') := by
  have F := Fr.refl [] w
  refine enter Try.func7 rfl Try.ntmps7 rfl ?_
  refine cl_seq rfl ?_
  refine cl_reg rfl ?_
  refine se rfl rfl rfl rfl (e_new (x_box (cs := encD x) rfl rfl)) ?_
  rintro _ w00 ⟨rfl, b6, fr, _⟩
  replace F := F.trans fr
  clear fr
  refine se rfl rfl rfl rfl (e_new (x_box (cs := encD y) rfl rfl)) ?_
  rintro _ w01 ⟨rfl, b7, fr, _⟩
  replace F := F.trans fr
  replace b6 := b6.fr0 fr
  clear fr
  refine st rfl rfl rfl rfl (x_asg rfl) ?_
  refine rl_end rfl ?_
  refine al_k ?_
  refine cl_seq rfl ?_
  refine cl_reg rfl ?_
  refine st rfl rfl rfl rfl (x_move rfl) ?_
  refine sc rfl rfl rfl rfl (c_fn rfl Try.call8 (few_r _ A c l (HR.fr0 F) 24 (by omega) hcp)) ?_
  rintro _ wf ⟨L, rfl, HL, hL, hL25, hLc, fr⟩
  replace F := F.trans fr
  replace b6 := b6.fr0 fr
  replace b7 := b7.fr0 fr
  clear fr
  refine st rfl rfl rfl rfl (x_asg rfl) ?_
  refine rl_end rfl ?_
  refine al_k ?_
  refine cl_seq rfl ?_
  refine cl_seq rfl ?_
  refine cl_reg rfl ?_
  refine st rfl rfl rfl rfl (x_move rfl) ?_
  refine st rfl rfl rfl rfl (x_len rfl Try.underlying24) ?_
  refine sf rfl rfl rfl rfl (x_gtr rfl rfl) (fun c2_2 => ?_) (fun c2_2 => ?_)
  · skip
    refine rl_end rfl ?_
    refine al_k ?_
    refine cl_if1 rfl rfl ?_
    refine cl_reg rfl ?_
    refine st rfl rfl rfl rfl (x_move rfl) ?_
    refine st rfl rfl rfl rfl (x_slt (m := (row.take 40).length) rfl rfl Try.underlying24 Try.sizeOf3 (by omega) (by rw [List.length_take]; omega)) ?_
    have HI4 := HI.take 40
    have hr40 : (row.take 40).length ≤ 40 := by rw [List.length_take]; omega
    have hcr4 : (row.take 40).length ≤ c2 := by rw [List.length_take]; omega
    clear HI hcr c2_2
    generalize row.take 40 = row at *
    rename RowG encI 1 _ A2 row => HI
    rename row.length ≤ c2 => hcr
    refine st rfl rfl rfl rfl (x_asg rfl) ?_
    refine rl_end rfl ?_
    refine al_k ?_
    refine cl_seq rfl ?_
    have hr40 : row.length ≤ 40 := by omega
    refine cl_reg rfl ?_
    refine st rfl rfl rfl rfl (x_move rfl) ?_
    refine st rfl rfl rfl rfl (x_move rfl) ?_
    refine sc rfl rfl rfl rfl (c_fn rfl Try.call18 (Play_c _ A c L HL A2 c2 row (HI.fr0 F) (by omega) (by omega))) ?_
    rintro _ w42 ⟨⟨v4, rfl, hs4⟩, fr⟩
    replace F := F.trans fr
    replace b6 := b6.fr0 fr
    replace b7 := b7.fr0 fr
    replace HL := HL.fr0 fr
    clear fr
    refine st rfl rfl rfl rfl (x_move rfl) ?_
    refine st rfl rfl rfl rfl (x_ext rfl rfl) ?_
    refine st rfl rfl rfl rfl (x_ext rfl rfl) ?_
    refine st rfl rfl rfl rfl (x_ext rfl rfl) ?_
    refine st rfl rfl rfl rfl (x_asg rfl) ?_
    refine st rfl rfl rfl rfl (x_asg rfl) ?_
    refine st rfl rfl rfl rfl (x_asg rfl) ?_
    refine rl_end rfl ?_
    refine al_k ?_
    refine cl_seq rfl ?_
    refine cl_reg rfl ?_
    refine st rfl rfl rfl rfl (x_move rfl) ?_
    refine st rfl rfl rfl rfl (x_move rfl) ?_
    refine sc rfl rfl rfl rfl (c_fn rfl Try.call16 (rPlay_c _ A c L HL A2 c2 row (HI.fr0 F) (by omega) (by omega))) ?_
    rintro _ w52 ⟨⟨v5, rfl, hs5⟩, fr⟩
    replace F := F.trans fr
    replace b6 := b6.fr0 fr
    replace b7 := b7.fr0 fr
    replace HL := HL.fr0 fr
    replace hs4 := hs4.fr0 fr
    clear fr
    refine st rfl rfl rfl rfl (x_move rfl) ?_
    refine st rfl rfl rfl rfl (x_ext rfl rfl) ?_
    refine st rfl rfl rfl rfl (x_ext rfl rfl) ?_
    refine st rfl rfl rfl rfl (x_ext rfl rfl) ?_
    refine st rfl rfl rfl rfl (x_asg rfl) ?_
    refine st rfl rfl rfl rfl (x_asg rfl) ?_
    refine st rfl rfl rfl rfl (x_asg rfl) ?_
    refine rl_end rfl ?_
    refine al_k ?_
    refine cl_seq rfl ?_
    refine cl_reg rfl ?_
    refine st rfl rfl rfl rfl (x_move rfl) ?_
    refine st rfl rfl rfl rfl (x_move rfl) ?_
    refine sc rfl rfl rfl rfl (c_fn rfl Try.call17 (Right_c _ A c L HL A2 c2 row (HI.fr0 F) (by omega) (by omega) hcr)) ?_
    rintro _ w62 ⟨rfl, fr⟩
    replace F := F.trans fr
    replace b6 := b6.fr0 fr
    replace b7 := b7.fr0 fr
    replace HL := HL.fr0 fr
    replace hs4 := hs4.fr0 fr
    replace hs5 := hs5.fr0 fr
    clear fr
    refine st rfl rfl rfl rfl (x_move rfl) ?_
    refine st rfl rfl rfl rfl (x_ext rfl rfl) ?_
    refine st rfl rfl rfl rfl (x_ext rfl rfl) ?_
    refine st rfl rfl rfl rfl (x_asg rfl) ?_
    refine st rfl rfl rfl rfl (x_asg rfl) ?_
    refine rl_end rfl ?_
    refine al_k ?_
    refine cl_seq rfl ?_
    refine cl_reg rfl ?_
    refine st rfl rfl rfl rfl (x_move rfl) ?_
    refine st rfl rfl rfl rfl (x_move rfl) ?_
    refine sc rfl rfl rfl rfl (c_fn rfl Try.call14 (rRight_c _ A c L HL A2 c2 row (HI.fr0 F) (by omega) (by omega) hcr)) ?_
    rintro _ w72 ⟨rfl, fr⟩
    replace F := F.trans fr
    replace b6 := b6.fr0 fr
    replace b7 := b7.fr0 fr
    replace HL := HL.fr0 fr
    replace hs4 := hs4.fr0 fr
    replace hs5 := hs5.fr0 fr
    clear fr
    refine st rfl rfl rfl rfl (x_move rfl) ?_
    refine st rfl rfl rfl rfl (x_ext rfl rfl) ?_
    refine st rfl rfl rfl rfl (x_ext rfl rfl) ?_
    refine st rfl rfl rfl rfl (x_asg rfl) ?_
    refine st rfl rfl rfl rfl (x_asg rfl) ?_
    refine rl_end rfl ?_
    refine al_k ?_
    refine cl_seq rfl ?_
    refine cl_draw (by kernel_rfl) rfl [] (fun w' => Fr [] w72 w') ?_
    have b6B := b6
    have b7B := b7
    obtain ⟨A4, c4, rfl, HS4, _⟩ := hs4
    obtain ⟨A5, c5, rfl, HS5, _⟩ := hs5
    rintro wd8 fr hpd
    have G := fr
    have FB := F
    replace F := F.trans fr
    replace HL := HL.fr0 fr
    replace HS4 := HS4.fr0 fr
    replace HS5 := HS5.fr0 fr
    clear fr
    refine ⟨G, ?_⟩
    refine dt (i := 0) rfl rfl rfl rfl (by kernel_rfl) (fun _ => x_move rfl) ?_
    refine dt (i := 2) rfl rfl rfl rfl (by kernel_rfl) (fun _ => x_move rfl) ?_
    refine d1 (i := 1) (by kernel_rfl) ?_
    refine oc rfl rfl rfl rfl (c_fn rfl Try.call19 (check_c _ A c L HL (by omega))) ?_
    rintro _ w81 ⟨rfl, fr⟩
    replace F := F.trans fr
    replace HL := HL.fr0 fr
    replace HS4 := HS4.fr0 fr
    replace HS5 := HS5.fr0 fr
    replace G := G.trans fr
    clear fr
    refine ⟨.inr G, ?_⟩
    refine d1 (i := 3) (by kernel_rfl) ?_
    refine oc rfl rfl rfl rfl (c_fn rfl Try.call13 (rcheck_c _ A c L HL (by omega))) ?_
    rintro _ w83 ⟨rfl, fr⟩
    replace F := F.trans fr
    replace HL := HL.fr0 fr
    replace HS4 := HS4.fr0 fr
    replace HS5 := HS5.fr0 fr
    replace G := G.trans fr
    clear fr
    refine ⟨.inr G, ?_⟩
    refine dt (i := 4) rfl rfl rfl rfl (by kernel_rfl) (fun _ => (x_eql rfl rfl).b1 rfl) ?_
    refine dt (i := 5) rfl rfl rfl rfl (by kernel_rfl) (fun _ => x_move rfl) ?_
    refine dlt (i := 6) rfl rfl rfl rfl (by kernel_rfl) (by kernel_rfl) (fun w' hU => x_ldn (cs := encD x) rfl Try.isAgg40 Try.sizeOf40 rfl (by intro j v hv; rw [Nat.zero_add]; exact (b6B.fr0 hU).cell hv)) ?_
    refine dlt (i := 7) rfl rfl rfl rfl (by kernel_rfl) (by kernel_rfl) (fun w' hU => x_ldn (cs := encD y) rfl Try.isAgg40 Try.sizeOf40 rfl (by intro j v hv; rw [Nat.zero_add]; exact (b7B.fr0 hU).cell hv)) ?_
    refine dlt (i := 9) rfl rfl rfl rfl (by kernel_rfl) (by kernel_rfl) (fun w' hU => x_ldn (cs := encD x) rfl Try.isAgg40 Try.sizeOf40 rfl (by intro j v hv; rw [Nat.zero_add]; exact (b6B.fr0 hU).cell hv)) ?_
    refine dlt (i := 10) rfl rfl rfl rfl (by kernel_rfl) (by kernel_rfl) (fun w' hU => x_ldn (cs := encD y) rfl Try.isAgg40 Try.sizeOf40 rfl (by intro j v hv; rw [Nat.zero_add]; exact (b7B.fr0 hU).cell hv)) ?_
    refine d1 (i := 8) (by kernel_rfl) ?_
    refine oc rfl rfl rfl rfl (c_fn rfl Try.call20 (ahead_c _ x y)) ?_
    rintro _ w88 ⟨rfl, fr⟩
    replace F := F.trans fr
    replace HL := HL.fr0 fr
    replace HS4 := HS4.fr0 fr
    replace HS5 := HS5.fr0 fr
    replace G := G.trans fr
    clear fr
    refine ⟨.inr G, ?_⟩
    refine d1 (i := 11) (by kernel_rfl) ?_
    refine oc rfl rfl rfl rfl (c_fn rfl Try.call21 (rahead_c _ x y)) ?_
    rintro _ w811 ⟨rfl, fr⟩
    replace F := F.trans fr
    replace HL := HL.fr0 fr
    replace HS4 := HS4.fr0 fr
    replace HS5 := HS5.fr0 fr
    replace G := G.trans fr
    clear fr
    refine ⟨.inr G, ?_⟩
    refine dt (i := 12) rfl rfl rfl rfl (by kernel_rfl) (fun _ => x_eqlbs rfl rfl Try.underlying4) ?_
    refine dt (i := 13) rfl rfl rfl rfl (by kernel_rfl) (fun _ => x_pick1 rfl rfl) ?_
    refine dt (i := 14) rfl rfl rfl rfl (by kernel_rfl) (fun _ => x_move rfl) ?_
    refine dt (i := 15) rfl rfl rfl rfl (by kernel_rfl) (fun _ => x_move rfl) ?_
    refine dt (i := 16) rfl rfl rfl rfl (by kernel_rfl) (fun _ => x_move rfl) ?_
    refine d1 (i := 17) (by kernel_rfl) ?_
    refine oc rfl rfl rfl rfl (c_fn rfl Try.call22 (samedeeds_self _ A4 c4 _ HS4 A5 c5 HS5 (by have := play_len' L row; omega))) ?_
    rintro _ w817 ⟨rfl, fr⟩
    replace F := F.trans fr
    replace HL := HL.fr0 fr
    replace HS4 := HS4.fr0 fr
    replace HS5 := HS5.fr0 fr
    replace G := G.trans fr
    clear fr
    refine ⟨.inr G, ?_⟩
    refine dt (i := 18) rfl rfl rfl rfl (by kernel_rfl) (fun _ => x_pick1 rfl rfl) ?_
    refine dt (i := 19) rfl rfl rfl rfl (by kernel_rfl) (fun _ => x_move rfl) ?_
    refine dt (i := 20) rfl rfl rfl rfl (by kernel_rfl) (fun _ => x_move rfl) ?_
    refine dt (i := 21) rfl rfl rfl rfl (by kernel_rfl) (fun _ => x_move rfl) ?_
    refine dt (i := 22) rfl rfl rfl rfl (by kernel_rfl) (fun _ => x_eqlbs rfl rfl Try.underlying4) ?_
    refine dt (i := 23) rfl rfl rfl rfl (by kernel_rfl) (fun _ => x_pick1 rfl rfl) ?_
    refine dt (i := 24) rfl rfl rfl rfl (by kernel_rfl) (fun _ => x_move rfl) ?_
    refine dt (i := 25) rfl rfl rfl rfl (by kernel_rfl) (fun _ => x_move rfl) ?_
    refine dt (i := 26) rfl rfl rfl rfl (by kernel_rfl) (fun _ => x_move rfl) ?_
    refine dt (i := 27) rfl rfl rfl rfl (by kernel_rfl) (fun _ => (x_eql rfl rfl).b1 rfl) ?_
    refine dt (i := 28) rfl rfl rfl rfl (by kernel_rfl) (fun _ => x_pick1 rfl rfl) ?_
    refine dt (i := 29) rfl rfl rfl rfl (by kernel_rfl) (fun _ => x_move rfl) ?_
    refine dt (i := 30) rfl rfl rfl rfl (by kernel_rfl) (fun _ => x_move rfl) ?_
    refine dt (i := 31) rfl rfl rfl rfl (by kernel_rfl) (fun _ => x_move rfl) ?_
    refine dt (i := 32) rfl rfl rfl rfl (by kernel_rfl) (fun _ => x_eqlbs rfl rfl Try.underlying4) ?_
    refine dt (i := 33) rfl rfl rfl rfl (by kernel_rfl) (fun _ => x_pick1 rfl rfl) ?_
    refine dt (i := 34) rfl rfl rfl rfl (by kernel_rfl) (fun _ => x_move rfl) ?_
    refine dt (i := 35) rfl rfl rfl rfl (by kernel_rfl) (fun _ => x_move rfl) ?_
    refine dt (i := 36) rfl rfl rfl rfl (by kernel_rfl) (fun _ => x_move rfl) ?_
    refine dt (i := 37) rfl rfl rfl rfl (by kernel_rfl) (fun _ => (x_eql rfl rfl).b1 rfl) ?_
    refine dt (i := 38) rfl rfl rfl rfl (by kernel_rfl) (fun _ => x_pick1 rfl rfl) ?_
    refine dt (i := 39) rfl rfl rfl rfl (by kernel_rfl) (fun _ => x_move rfl) ?_
    refine d1 (i := 40) (by kernel_rfl) ?_
    refine oc rfl rfl rfl rfl (c_fn rfl Try.call12 (alive_c _)) ?_
    rintro _ w840 ⟨rfl, fr⟩
    replace F := F.trans fr
    replace HL := HL.fr0 fr
    replace HS4 := HS4.fr0 fr
    replace HS5 := HS5.fr0 fr
    replace G := G.trans fr
    clear fr
    refine ⟨.inr G, ?_⟩
    refine dt (i := 41) rfl rfl rfl rfl (by kernel_rfl) (fun _ => x_pick1 rfl rfl) ?_
    refine dt (i := 42) rfl rfl rfl rfl (by kernel_rfl) (fun _ => x_asg rfl) ?_
    refine dn (by kernel_rfl) ?_
    refine al_k ?_
    refine cl_ret rfl ?_
    refine fin1 rfl rfl ?_
    exact ⟨rfl, F⟩
  · skip
    refine rl_end rfl ?_
    refine al_k ?_
    refine cl_if0 rfl rfl ?_
    refine cl_skip rfl ?_
    refine al_k ?_
    refine cl_seq rfl ?_
    have hr40 : row.length ≤ 40 := by omega
    refine cl_reg rfl ?_
    refine st rfl rfl rfl rfl (x_move rfl) ?_
    refine st rfl rfl rfl rfl (x_move rfl) ?_
    refine sc rfl rfl rfl rfl (c_fn rfl Try.call18 (Play_c _ A c L HL A2 c2 row (HI.fr0 F) (by omega) (by omega))) ?_
    rintro _ w42 ⟨⟨v4, rfl, hs4⟩, fr⟩
    replace F := F.trans fr
    replace b6 := b6.fr0 fr
    replace b7 := b7.fr0 fr
    replace HL := HL.fr0 fr
    clear fr
    refine st rfl rfl rfl rfl (x_move rfl) ?_
    refine st rfl rfl rfl rfl (x_ext rfl rfl) ?_
    refine st rfl rfl rfl rfl (x_ext rfl rfl) ?_
    refine st rfl rfl rfl rfl (x_ext rfl rfl) ?_
    refine st rfl rfl rfl rfl (x_asg rfl) ?_
    refine st rfl rfl rfl rfl (x_asg rfl) ?_
    refine st rfl rfl rfl rfl (x_asg rfl) ?_
    refine rl_end rfl ?_
    refine al_k ?_
    refine cl_seq rfl ?_
    refine cl_reg rfl ?_
    refine st rfl rfl rfl rfl (x_move rfl) ?_
    refine st rfl rfl rfl rfl (x_move rfl) ?_
    refine sc rfl rfl rfl rfl (c_fn rfl Try.call16 (rPlay_c _ A c L HL A2 c2 row (HI.fr0 F) (by omega) (by omega))) ?_
    rintro _ w52 ⟨⟨v5, rfl, hs5⟩, fr⟩
    replace F := F.trans fr
    replace b6 := b6.fr0 fr
    replace b7 := b7.fr0 fr
    replace HL := HL.fr0 fr
    replace hs4 := hs4.fr0 fr
    clear fr
    refine st rfl rfl rfl rfl (x_move rfl) ?_
    refine st rfl rfl rfl rfl (x_ext rfl rfl) ?_
    refine st rfl rfl rfl rfl (x_ext rfl rfl) ?_
    refine st rfl rfl rfl rfl (x_ext rfl rfl) ?_
    refine st rfl rfl rfl rfl (x_asg rfl) ?_
    refine st rfl rfl rfl rfl (x_asg rfl) ?_
    refine st rfl rfl rfl rfl (x_asg rfl) ?_
    refine rl_end rfl ?_
    refine al_k ?_
    refine cl_seq rfl ?_
    refine cl_reg rfl ?_
    refine st rfl rfl rfl rfl (x_move rfl) ?_
    refine st rfl rfl rfl rfl (x_move rfl) ?_
    refine sc rfl rfl rfl rfl (c_fn rfl Try.call17 (Right_c _ A c L HL A2 c2 row (HI.fr0 F) (by omega) (by omega) hcr)) ?_
    rintro _ w62 ⟨rfl, fr⟩
    replace F := F.trans fr
    replace b6 := b6.fr0 fr
    replace b7 := b7.fr0 fr
    replace HL := HL.fr0 fr
    replace hs4 := hs4.fr0 fr
    replace hs5 := hs5.fr0 fr
    clear fr
    refine st rfl rfl rfl rfl (x_move rfl) ?_
    refine st rfl rfl rfl rfl (x_ext rfl rfl) ?_
    refine st rfl rfl rfl rfl (x_ext rfl rfl) ?_
    refine st rfl rfl rfl rfl (x_asg rfl) ?_
    refine st rfl rfl rfl rfl (x_asg rfl) ?_
    refine rl_end rfl ?_
    refine al_k ?_
    refine cl_seq rfl ?_
    refine cl_reg rfl ?_
    refine st rfl rfl rfl rfl (x_move rfl) ?_
    refine st rfl rfl rfl rfl (x_move rfl) ?_
    refine sc rfl rfl rfl rfl (c_fn rfl Try.call14 (rRight_c _ A c L HL A2 c2 row (HI.fr0 F) (by omega) (by omega) hcr)) ?_
    rintro _ w72 ⟨rfl, fr⟩
    replace F := F.trans fr
    replace b6 := b6.fr0 fr
    replace b7 := b7.fr0 fr
    replace HL := HL.fr0 fr
    replace hs4 := hs4.fr0 fr
    replace hs5 := hs5.fr0 fr
    clear fr
    refine st rfl rfl rfl rfl (x_move rfl) ?_
    refine st rfl rfl rfl rfl (x_ext rfl rfl) ?_
    refine st rfl rfl rfl rfl (x_ext rfl rfl) ?_
    refine st rfl rfl rfl rfl (x_asg rfl) ?_
    refine st rfl rfl rfl rfl (x_asg rfl) ?_
    refine rl_end rfl ?_
    refine al_k ?_
    refine cl_seq rfl ?_
    refine cl_draw (by kernel_rfl) rfl [] (fun w' => Fr [] w72 w') ?_
    have b6B := b6
    have b7B := b7
    obtain ⟨A4, c4, rfl, HS4, _⟩ := hs4
    obtain ⟨A5, c5, rfl, HS5, _⟩ := hs5
    rintro wd8 fr hpd
    have G := fr
    have FB := F
    replace F := F.trans fr
    replace HL := HL.fr0 fr
    replace HS4 := HS4.fr0 fr
    replace HS5 := HS5.fr0 fr
    clear fr
    refine ⟨G, ?_⟩
    refine dt (i := 0) rfl rfl rfl rfl (by kernel_rfl) (fun _ => x_move rfl) ?_
    refine dt (i := 2) rfl rfl rfl rfl (by kernel_rfl) (fun _ => x_move rfl) ?_
    refine d1 (i := 1) (by kernel_rfl) ?_
    refine oc rfl rfl rfl rfl (c_fn rfl Try.call19 (check_c _ A c L HL (by omega))) ?_
    rintro _ w81 ⟨rfl, fr⟩
    replace F := F.trans fr
    replace HL := HL.fr0 fr
    replace HS4 := HS4.fr0 fr
    replace HS5 := HS5.fr0 fr
    replace G := G.trans fr
    clear fr
    refine ⟨.inr G, ?_⟩
    refine d1 (i := 3) (by kernel_rfl) ?_
    refine oc rfl rfl rfl rfl (c_fn rfl Try.call13 (rcheck_c _ A c L HL (by omega))) ?_
    rintro _ w83 ⟨rfl, fr⟩
    replace F := F.trans fr
    replace HL := HL.fr0 fr
    replace HS4 := HS4.fr0 fr
    replace HS5 := HS5.fr0 fr
    replace G := G.trans fr
    clear fr
    refine ⟨.inr G, ?_⟩
    refine dt (i := 4) rfl rfl rfl rfl (by kernel_rfl) (fun _ => (x_eql rfl rfl).b1 rfl) ?_
    refine dt (i := 5) rfl rfl rfl rfl (by kernel_rfl) (fun _ => x_move rfl) ?_
    refine dlt (i := 6) rfl rfl rfl rfl (by kernel_rfl) (by kernel_rfl) (fun w' hU => x_ldn (cs := encD x) rfl Try.isAgg40 Try.sizeOf40 rfl (by intro j v hv; rw [Nat.zero_add]; exact (b6B.fr0 hU).cell hv)) ?_
    refine dlt (i := 7) rfl rfl rfl rfl (by kernel_rfl) (by kernel_rfl) (fun w' hU => x_ldn (cs := encD y) rfl Try.isAgg40 Try.sizeOf40 rfl (by intro j v hv; rw [Nat.zero_add]; exact (b7B.fr0 hU).cell hv)) ?_
    refine dlt (i := 9) rfl rfl rfl rfl (by kernel_rfl) (by kernel_rfl) (fun w' hU => x_ldn (cs := encD x) rfl Try.isAgg40 Try.sizeOf40 rfl (by intro j v hv; rw [Nat.zero_add]; exact (b6B.fr0 hU).cell hv)) ?_
    refine dlt (i := 10) rfl rfl rfl rfl (by kernel_rfl) (by kernel_rfl) (fun w' hU => x_ldn (cs := encD y) rfl Try.isAgg40 Try.sizeOf40 rfl (by intro j v hv; rw [Nat.zero_add]; exact (b7B.fr0 hU).cell hv)) ?_
    refine d1 (i := 8) (by kernel_rfl) ?_
    refine oc rfl rfl rfl rfl (c_fn rfl Try.call20 (ahead_c _ x y)) ?_
    rintro _ w88 ⟨rfl, fr⟩
    replace F := F.trans fr
    replace HL := HL.fr0 fr
    replace HS4 := HS4.fr0 fr
    replace HS5 := HS5.fr0 fr
    replace G := G.trans fr
    clear fr
    refine ⟨.inr G, ?_⟩
    refine d1 (i := 11) (by kernel_rfl) ?_
    refine oc rfl rfl rfl rfl (c_fn rfl Try.call21 (rahead_c _ x y)) ?_
    rintro _ w811 ⟨rfl, fr⟩
    replace F := F.trans fr
    replace HL := HL.fr0 fr
    replace HS4 := HS4.fr0 fr
    replace HS5 := HS5.fr0 fr
    replace G := G.trans fr
    clear fr
    refine ⟨.inr G, ?_⟩
    refine dt (i := 12) rfl rfl rfl rfl (by kernel_rfl) (fun _ => x_eqlbs rfl rfl Try.underlying4) ?_
    refine dt (i := 13) rfl rfl rfl rfl (by kernel_rfl) (fun _ => x_pick1 rfl rfl) ?_
    refine dt (i := 14) rfl rfl rfl rfl (by kernel_rfl) (fun _ => x_move rfl) ?_
    refine dt (i := 15) rfl rfl rfl rfl (by kernel_rfl) (fun _ => x_move rfl) ?_
    refine dt (i := 16) rfl rfl rfl rfl (by kernel_rfl) (fun _ => x_move rfl) ?_
    refine d1 (i := 17) (by kernel_rfl) ?_
    refine oc rfl rfl rfl rfl (c_fn rfl Try.call22 (samedeeds_self _ A4 c4 _ HS4 A5 c5 HS5 (by have := play_len' L row; omega))) ?_
    rintro _ w817 ⟨rfl, fr⟩
    replace F := F.trans fr
    replace HL := HL.fr0 fr
    replace HS4 := HS4.fr0 fr
    replace HS5 := HS5.fr0 fr
    replace G := G.trans fr
    clear fr
    refine ⟨.inr G, ?_⟩
    refine dt (i := 18) rfl rfl rfl rfl (by kernel_rfl) (fun _ => x_pick1 rfl rfl) ?_
    refine dt (i := 19) rfl rfl rfl rfl (by kernel_rfl) (fun _ => x_move rfl) ?_
    refine dt (i := 20) rfl rfl rfl rfl (by kernel_rfl) (fun _ => x_move rfl) ?_
    refine dt (i := 21) rfl rfl rfl rfl (by kernel_rfl) (fun _ => x_move rfl) ?_
    refine dt (i := 22) rfl rfl rfl rfl (by kernel_rfl) (fun _ => x_eqlbs rfl rfl Try.underlying4) ?_
    refine dt (i := 23) rfl rfl rfl rfl (by kernel_rfl) (fun _ => x_pick1 rfl rfl) ?_
    refine dt (i := 24) rfl rfl rfl rfl (by kernel_rfl) (fun _ => x_move rfl) ?_
    refine dt (i := 25) rfl rfl rfl rfl (by kernel_rfl) (fun _ => x_move rfl) ?_
    refine dt (i := 26) rfl rfl rfl rfl (by kernel_rfl) (fun _ => x_move rfl) ?_
    refine dt (i := 27) rfl rfl rfl rfl (by kernel_rfl) (fun _ => (x_eql rfl rfl).b1 rfl) ?_
    refine dt (i := 28) rfl rfl rfl rfl (by kernel_rfl) (fun _ => x_pick1 rfl rfl) ?_
    refine dt (i := 29) rfl rfl rfl rfl (by kernel_rfl) (fun _ => x_move rfl) ?_
    refine dt (i := 30) rfl rfl rfl rfl (by kernel_rfl) (fun _ => x_move rfl) ?_
    refine dt (i := 31) rfl rfl rfl rfl (by kernel_rfl) (fun _ => x_move rfl) ?_
    refine dt (i := 32) rfl rfl rfl rfl (by kernel_rfl) (fun _ => x_eqlbs rfl rfl Try.underlying4) ?_
    refine dt (i := 33) rfl rfl rfl rfl (by kernel_rfl) (fun _ => x_pick1 rfl rfl) ?_
    refine dt (i := 34) rfl rfl rfl rfl (by kernel_rfl) (fun _ => x_move rfl) ?_
    refine dt (i := 35) rfl rfl rfl rfl (by kernel_rfl) (fun _ => x_move rfl) ?_
    refine dt (i := 36) rfl rfl rfl rfl (by kernel_rfl) (fun _ => x_move rfl) ?_
    refine dt (i := 37) rfl rfl rfl rfl (by kernel_rfl) (fun _ => (x_eql rfl rfl).b1 rfl) ?_
    refine dt (i := 38) rfl rfl rfl rfl (by kernel_rfl) (fun _ => x_pick1 rfl rfl) ?_
    refine dt (i := 39) rfl rfl rfl rfl (by kernel_rfl) (fun _ => x_move rfl) ?_
    refine d1 (i := 40) (by kernel_rfl) ?_
    refine oc rfl rfl rfl rfl (c_fn rfl Try.call12 (alive_c _)) ?_
    rintro _ w840 ⟨rfl, fr⟩
    replace F := F.trans fr
    replace HL := HL.fr0 fr
    replace HS4 := HS4.fr0 fr
    replace HS5 := HS5.fr0 fr
    replace G := G.trans fr
    clear fr
    refine ⟨.inr G, ?_⟩
    refine dt (i := 41) rfl rfl rfl rfl (by kernel_rfl) (fun _ => x_pick1 rfl rfl) ?_
    refine dt (i := 42) rfl rfl rfl rfl (by kernel_rfl) (fun _ => x_asg rfl) ?_
    refine dn (by kernel_rfl) ?_
    refine al_k ?_
    refine cl_ret rfl ?_
    refine fin1 rfl rfl ?_
    exact ⟨rfl, F⟩

theorem plays_c (W : World) (a : Option Addr) (len cap : Nat) (hlen : len ≤ 9223372036854775807) (hf : ∀ j : Nat, j < len → ∃ (x : Addr) (z0 : Int) (z1 : Int) (z2 : Int) (z3 : Int) (z4 : Int) (z5 : Bool), a = some x ∧ (∀ i v, [(.int .i64 z0 : Value), .int .i64 z1, .int .u64 z2, .int .i64 z3, .int .i64 z4, .bool z5][i]? = some v → W.cell? ((x.add (((j : Nat) : Int).toNat * 6)).add i) = some v) ∧ (Lit.int .i64 z0).wf = true ∧ (Lit.int .i64 z1).wf = true ∧ (Lit.int .u64 z2).wf = true ∧ (Lit.int .i64 z3).wf = true ∧ (Lit.int .i64 z4).wf = true) (hq : len ≤ cap) (a2 : Option Addr) (len2 cap2 : Nat) (hlen2 : len2 ≤ 9223372036854775807) (hf2 : ∀ j : Nat, j < len2 → ∃ (x : Addr) (z : Int), a2 = some x ∧ W.cell? (x.add (((j : Nat) : Int).toNat * 1)) = some (.int .i64 z) ∧ (Lit.int .i64 z).wf = true) (hq2 : len2 ≤ cap2) (x0 x1 x2 x3 x4 : Int) (x5 : Bool) (y0 y1 y2 y3 y4 : Int) (y5 : Bool) : Cl Try.prog 7 [.slice a len cap, .slice a2 len2 cap2, .agg #[.int .i64 x0, .int .i64 x1, .int .u64 x2, .int .i64 x3, .int .i64 x4, .bool x5], .agg #[.int .i64 y0, .int .i64 y1, .int .u64 y2, .int .i64 y3, .int .i64 y4, .bool y5]] W (fun v W' => v = .bool true ∧ Fr [] W W') := by
  obtain ⟨l, rfl, HR, _⟩ := rowD_in hf
  obtain ⟨row, rfl, HI⟩ := rowI_in hf2
  exact plays_core W a cap l HR hq a2 cap2 row HI hq2 ⟨x0, x1, x2, x3, x4, x5⟩ ⟨y0, y1, y2, y3, y4, y5⟩

end Go.Proofs.Ytmeheoflfdmgiaa.Lin
