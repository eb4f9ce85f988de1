/- slices.EqualFunc over records, with the closure of snap.Same: walked. -/
import Derived.Test.YtenfdankgjdfpaaSsWalk
set_option linter.unusedVariables false
set_option linter.unusedSimpArgs false
namespace Go.Proofs.Ytenfdankgjdfpaa.PSnapSame
open Go.RowKit Go.Proofs.YtenfdankgjdfpaaW.PrintWords Go.Proofs.YtenfdankgjdfpaaW.PrintLast Go.Proofs.YtenfdankgjdfpaaW.PrintMore
open Classical

theorem spot_plain {W : World} {a : Addr} {v : Value} (h : W.cell? a = some v) : a = ⟨a.block, a.off, none⟩ := by
  obtain ⟨b, o, s⟩ := a
  unfold World.cell? at h
  cases s with
  | none => rfl
  | some s => split at h <;> simp at h
theorem add_at (G O k : Nat) : (⟨G, O, none⟩ : Addr).add k = ⟨G, O + k, none⟩ := by
  unfold Addr.add
  split
  · next h => subst h; rfl
  · rfl
/-- records in memory, at plain places -/
theorem recs_plain {w : World} {A : Option Addr} {l : List S66} (h : Kd.C k66 w A l.length l) (hp : 0 < l.length) : ∃ G O, A = some ⟨G, O, none⟩ ∧ ∀ i (hi : i < l.length), ∃ A2 c2 A3 c3 A7 c7,
    w.cell? ⟨G, O + i * 8, none⟩ = some (.int .i64 l[i].f0.f0) ∧ w.cell? ⟨G, O + i * 8 + 1, none⟩ = some (.int .i64 l[i].f0.f1) ∧ w.cell? ⟨G, O + i * 8 + 2, none⟩ = some (.slice A2 l[i].f1.length c2) ∧
    w.cell? ⟨G, O + i * 8 + 3, none⟩ = some (.slice A3 l[i].f2.length c3) ∧ w.cell? ⟨G, O + i * 8 + 4, none⟩ = some (.int .i64 l[i].f3) ∧ w.cell? ⟨G, O + i * 8 + 5, none⟩ = some (.int .i64 l[i].f4) ∧
    w.cell? ⟨G, O + i * 8 + 6, none⟩ = some (.int .i64 l[i].f5) ∧ w.cell? ⟨G, O + i * 8 + 7, none⟩ = some (.slice A7 l[i].f6.length c7) ∧
    l[i].f1.length ≤ c2 ∧ (Kd.int .i64).C w A2 l[i].f1.length l[i].f1 ∧ l[i].f2.length ≤ c3 ∧ k69.C w A3 l[i].f2.length l[i].f2 ∧ l[i].f6.length ≤ c7 ∧ (Kd.int .i64).C w A7 l[i].f6.length l[i].f6 := by
  obtain ⟨ad, _, _, _, _, _, _, e, hz, _⟩ := at_T66 h 0 (by omega) (by omega)
  have hpl : ad = ⟨ad.block, ad.off, none⟩ := spot_plain (a := ad) (by simpa [Addr.add] using hz)
  clear hz
  refine ⟨ad.block, ad.off, by rw [e, ← hpl], fun i hi => ?_⟩
  obtain ⟨ad', A2, c2, A3, c3, A7, c7, e', h0, h1, h2, h3, h4, h5, h6, h7, r⟩ := at_T66 h (i : Int) (by omega) (by omega)
  obtain rfl : ad = ad' := by rw [e] at e'; exact Option.some.inj e'
  have hrd : rd_T66 l (i : Int) = l[i] := getD_at l z66 i hi
  rw [hpl, Int.toNat_natCast, add_at] at h0 h1 h2 h3 h4 h5 h6 h7
  rw [hrd] at h0 h1 h2 h3 h4 h5 h6 h7 r
  exact ⟨A2, c2, A3, c3, A7, c7, h0, h1, h2, h3, h4, h5, h6, h7, r⟩
theorem take_next {l m : List S66} {j : Nat} (h1 : j < l.length) (h2 : j < m.length) (h : l.take j = m.take j) (he : l[j] = m[j]) : l.take (j + 1) = m.take (j + 1) := by
  rw [List.take_add_one, List.take_add_one, List.getElem?_eq_getElem h1, List.getElem?_eq_getElem h2, h, he]
set_option maxHeartbeats 4000000 in
set_option maxRecDepth 20000 in
theorem eqf_walk {M : Nat} (w : World) (A : Option Addr) (c : Nat) (l : List S66) (B : Option Addr) (d : Nat) (m : List S66) (hA : Kd.C k66 w A l.length l) (hc : l.length ≤ c) (hB : Kd.C k66 w B m.length m) (hd : m.length ≤ d)
    (hM : M ≤ 9223372036854775000) (hf : ∀ x ∈ l, RecFits M x) (hl : l.length ≤ 9223372036854775000) :
    Calls Try.prog 37 #[.slice A l.length c, .slice B m.length d, .func (.func 30) #[] #[]] w fun e w' => e = .returned (.bool (decide (l = m))) ∧ Below w.heap.size w w' := by
  by_cases hlen : l.length = m.length
  · have hle : ((l.length : Int) != (m.length : Int)) = false := by simp [hlen]
    have hlm : m.length = l.length := hlen.symm
    rw [hlm] at hB hd
    replace hlen := Go.Lib.hid hlen
    replace hlm := Go.Lib.hid hlm
    have hd' : l.length ≤ d := hd
    rw [show m.length = l.length from hlm]
    go_enter Try.func37, Try.ntmps37
    go_wp2
    go_loopw [17] (fun i wr => ∃ j : Nat, j ≤ l.length ∧ i = .int .i64 j ∧ Below w.heap.size w wr ∧ l.take j = m.take j) (fun i _ => l.length - (intOf i).toNat)
    case atStart => exact ⟨0, by omega, rfl, Below.refl _ _, by simp⟩
    case round =>
      obtain ⟨j, hj, rfl, hBr, hT⟩ := hrel
      replace hT := Go.Lib.hid hT
      by_cases hlt : j < l.length
      · obtain ⟨G, O, rfl, hcA⟩ := recs_plain hA (by omega)
        obtain ⟨H, Q, rfl, hcB⟩ := recs_plain (l := m) (show Kd.C k66 w B m.length m by rw [show m.length = l.length from hlm]; exact hB) (by have := (show m.length = l.length from hlm); omega)
        obtain ⟨A2, c2, A3, c3, A7, c7, a0, a1, a2, a3, a4, a5, a6, a7, l2, g2, l3, g3, l7, g7⟩ := hcA j hlt
        obtain ⟨B2, d2, B3, d3, B7, d7, b0, b1, b2, b3, b4, b5, b6, b7, m2, h2, m3, h3, m7, h7⟩ := hcB j (by have := (show m.length = l.length from hlm); omega)
        have hjm : j < m.length := by have := (show m.length = l.length from hlm); omega
        have hfj := hf l[j] (List.getElem_mem hlt)
        have hTn : l[j] = m[j]'hjm → l.take (j + 1) = m.take (j + 1) := fun he => take_next hlt hjm (show l.take j = m.take j from hT) he
        have hTd : l[j] ≠ m[j]'hjm → l ≠ m := fun he e => he (by subst e; rfl)
        replace hTn := Go.Lib.hid hTn
        replace hTd := Go.Lib.hid hTd
        generalize l[j] = x at *
        generalize m[j]'hjm = y at *
        replace a0 := pw_cell_below hBr a0
        replace a1 := pw_cell_below hBr a1
        replace a2 := pw_cell_below hBr a2
        replace a3 := pw_cell_below hBr a3
        replace a4 := pw_cell_below hBr a4
        replace a5 := pw_cell_below hBr a5
        replace a6 := pw_cell_below hBr a6
        replace a7 := pw_cell_below hBr a7
        replace b0 := pw_cell_below hBr b0
        replace b1 := pw_cell_below hBr b1
        replace b2 := pw_cell_below hBr b2
        replace b3 := pw_cell_below hBr b3
        replace b4 := pw_cell_below hBr b4
        replace b5 := pw_cell_below hBr b5
        replace b6 := pw_cell_below hBr b6
        replace b7 := pw_cell_below hBr b7
        replace g2 := Kd.C_below g2 hBr
        replace g3 := Kd.C_below g3 hBr
        replace g7 := Kd.C_below g7 hBr
        replace h2 := Kd.C_below h2 hBr
        replace h3 := Kd.C_below h3 hBr
        replace h7 := Kd.C_below h7 hBr
        have hzr := hBr.size
        have hwz : ∀ o : Obj, Below wr.heap.size wr (wr.alloc o) := fun o => below_alloc (Below.refl _ _) o
        go_upto_region 6 with fail
        have hB1 := hwz (.cells #[.int .i64 x.f0.f0, .int .i64 x.f0.f1, .slice A2 x.f1.length c2, .slice A3 x.f2.length c3, .int .i64 x.f3, .int .i64 x.f4, .int .i64 x.f5, .slice A7 x.f6.length c7] 66)
        have hx := heap_alloc_new wr (.cells #[.int .i64 x.f0.f0, .int .i64 x.f0.f1, .slice A2 x.f1.length c2, .slice A3 x.f2.length c3, .int .i64 x.f3, .int .i64 x.f4, .int .i64 x.f5, .slice A7 x.f6.length c7] 66)
        have hlt1 : wr.heap.size < (wr.alloc (.cells #[.int .i64 x.f0.f0, .int .i64 x.f0.f1, .slice A2 x.f1.length c2, .slice A3 x.f2.length c3, .int .i64 x.f3, .int .i64 x.f4, .int .i64 x.f5, .slice A7 x.f6.length c7] 66)).heap.size := by simp
        obtain ⟨gx, hgx⟩ : ∃ g, g = wr.heap.size := ⟨_, rfl⟩
        rw [← hgx] at hx hlt1 ⊢
        generalize wr.alloc (.cells #[.int .i64 x.f0.f0, .int .i64 x.f0.f1, .slice A2 x.f1.length c2, .slice A3 x.f2.length c3, .int .i64 x.f3, .int .i64 x.f4, .int .i64 x.f5, .slice A7 x.f6.length c7] 66) = W1 at *
        clear hgx
        replace b0 := pw_cell_below hB1 b0
        replace b1 := pw_cell_below hB1 b1
        replace b2 := pw_cell_below hB1 b2
        replace b3 := pw_cell_below hB1 b3
        replace b4 := pw_cell_below hB1 b4
        replace b5 := pw_cell_below hB1 b5
        replace b6 := pw_cell_below hB1 b6
        replace b7 := pw_cell_below hB1 b7
        clear a0 a1 a2 a3 a4 a5 a6 a7
        go_upto_region 7 with fail
        have hB2 : Below W1.heap.size W1 (W1.alloc (.cells #[.int .i64 y.f0.f0, .int .i64 y.f0.f1, .slice B2 y.f1.length d2, .slice B3 y.f2.length d3, .int .i64 y.f3, .int .i64 y.f4, .int .i64 y.f5, .slice B7 y.f6.length d7] 66)) := below_alloc (Below.refl _ _) _
        have hy := heap_alloc_new W1 (.cells #[.int .i64 y.f0.f0, .int .i64 y.f0.f1, .slice B2 y.f1.length d2, .slice B3 y.f2.length d3, .int .i64 y.f3, .int .i64 y.f4, .int .i64 y.f5, .slice B7 y.f6.length d7] 66)
        have hx2 := (hB2.block gx hlt1).trans hx
        obtain ⟨gy, hgy⟩ : ∃ g, g = W1.heap.size := ⟨_, rfl⟩
        rw [← hgy] at hy ⊢
        have hB12 := hB1.trans (hB2.mono hB1.size)
        generalize W1.alloc (.cells #[.int .i64 y.f0.f0, .int .i64 y.f0.f1, .slice B2 y.f1.length d2, .slice B3 y.f2.length d3, .int .i64 y.f3, .int .i64 y.f4, .int .i64 y.f5, .slice B7 y.f6.length d7] 66) = W2 at *
        clear hgy hx b0 b1 b2 b3 b4 b5 b6 b7 hB1 hlt1
        have a0 := blk_cell hx2 0
        have b0 := blk_cell hy 0
        have a1 := blk_cell hx2 1
        have b1 := blk_cell hy 1
        have a2 := blk_cell hx2 2
        have b2 := blk_cell hy 2
        have a3 := blk_cell hx2 3
        have b3 := blk_cell hy 3
        have a4 := blk_cell hx2 4
        have b4 := blk_cell hy 4
        have a5 := blk_cell hx2 5
        have b5 := blk_cell hy 5
        have a6 := blk_cell hx2 6
        have b6 := blk_cell hy 6
        have a7 := blk_cell hx2 7
        have b7 := blk_cell hy 7
        simp only [List.getElem?_toArray, List.getElem?_cons_zero, List.getElem?_cons_succ] at a0 b0 a1 b1 a2 b2 a3 b3 a4 b4 a5 b5 a6 b6 a7 b7
        have HC := rec_walk W2 x y A2 c2 A3 c3 A7 c7 B2 d2 B3 d3 B7 d7 l2 (Kd.C_below g2 hB12) l3 (Kd.C_below g3 hB12) l7 (Kd.C_below g7 hB12) m2 (Kd.C_below h2 hB12) m3 (Kd.C_below h3 hB12) m7 (Kd.C_below h7 hB12)
          ⟨by have := hfj.a; omega, by have := hfj.b; omega, by have := hfj.c; omega⟩
        unfold recV at HC
        clear g2 g3 g7 h2 h3 h7 hwz hcA hcB hA hB hf
        by_cases he : x = y
        · have hd1 : decide (x = y) = true := decide_eq_true he
          rw [hd1] at HC
          replace he := Go.Lib.hid he
          go_wp2_with (go_at_call 30; refine HC.mono ?_; rintro e w4 ⟨rfl, hB4⟩)
          go_roundw
          case rel => exact ⟨j + 1, hlt, by go_num, hBr.trans ((hB12.trans (hB4.mono hB12.size)).mono hzr), (show x = y → l.take (j + 1) = m.take (j + 1) from hTn) he⟩
          case measure => simp [intOf]; omega
        · have hd1 : decide (x = y) = false := decide_eq_false he
          rw [hd1] at HC
          replace he := Go.Lib.hid he
          go_wp2_with (go_at_call 30; refine HC.mono ?_; rintro e w4 ⟨rfl, hB4⟩)
          go_ret
          exact ⟨by rw [decide_eq_false ((show x ≠ y → l ≠ m from hTd) he)]; rfl, hBr.trans ((hB12.trans (hB4.mono hB12.size)).mono hzr)⟩
      · have hjl : j = l.length := by omega
        have hlm2 := (show l.length = m.length from hlen)
        have hT2 := (show l.take j = m.take j from hT)
        have he : l = m := by rw [List.take_of_length_le (by omega), List.take_of_length_le (by omega)] at hT2; exact hT2
        have hd1 := decide_eq_true he
        clear hT2 hlm2 hjl
        replace he := Go.Lib.hid he
        go_wp2
        go_ret
        exact ⟨by rw [show decide (l = m) = true from hd1]; rfl, hBr⟩
  · have hle : ((l.length : Int) != (m.length : Int)) = true := by simp; omega
    have hne : l ≠ m := fun e => hlen (by rw [e])
    go_enter Try.func37, Try.ntmps37
    go_wp2
    go_ret
    exact ⟨by rw [decide_eq_false hne]; rfl, Below.refl _ _⟩
end Go.Proofs.Ytenfdankgjdfpaa.PSnapSame
