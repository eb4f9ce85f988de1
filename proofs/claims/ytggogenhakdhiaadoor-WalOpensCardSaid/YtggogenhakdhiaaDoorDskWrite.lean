/- A sector is written, the program's way. -/
import Derived.Test.YtggogenhakdhiaaDoorDskLay
set_option linter.unusedVariables false
set_option linter.unusedSimpArgs false
namespace Go.Proofs.YtggogenhakdhiaaDoor
open Go.RowKit

set_option maxHeartbeats 1000000 in
theorem write_ok (w : World) (g n : Nat) (sv tv : Value) (d : DS) (k : Nat) (A : Option Addr) (c : Nat) (b : List UInt8) (h : PDsk w g sv tv n d) (hk : k < n) (hb : Bys w A 64 b) (hd : d.down = false) (ha : d.armed ≠ 0) (ht : d.trail.length ≤ 1000000) :
    Calls Tryd.prog 11 #[.pointer (some ⟨g, 0, none⟩), .int .i64 k, .slice A 64 c] w (Acts 82 84 64 n (.int .i64 0) g n sv tv (writeOf n d k b).1 w) := by
  have hblen := hb.len
  obtain ⟨D, hD⟩ : ∃ D, D = (writeOf n d k b).1 := ⟨_, rfl⟩
  rw [← hD]
  rw [writeOf_n n d k b hk hb.len hd ha] at hD
  replace hD := Go.Lib.hid hD
  have c0 := h.c0
  have c1 := h.c1
  have c2 := h.c2
  have c3 := h.c3
  rw [hd] at c3
  have f1 := h.fz 1
  have f2 := h.fz 2
  have f3 := h.fz 3
  have hle := h.le
  have ha' : (d.armed == 0) = false := by simpa using ha
  obtain ⟨s, cs, hv, _, hs, hc1, hc2, _⟩ := own_some h.sec h.pos
  subst hv
  obtain ⟨ad, rfl, _⟩ := hb.cell 0 (by omega)
  go_enter Tryd.func11, Tryd.ntmps11
  go_upto_region 8 with fail
  have h3 := h.set3 (by decide) (by decide) false
  have hC3 : Chg (Foot g (.slice (some ⟨s, 0, none⟩) n cs) tv) w (w.setCell ⟨g, 3, none⟩ (.bool false)) := (Chg.refl _ _).setCell (.inl rfl) _
  have hb3 := h.bys (i := 3) hb (.bool false)
  clear c0 c1 c2 c3 f1 f2 f3 h hb
  generalize w.setCell ⟨g, 3, none⟩ (.bool false) = w3 at h3 hC3 hb3
  have c0 := h3.c0
  have hp := h3.pos
  obtain ⟨cur, hcur, hcl, hset⟩ := h3.row hp (by decide) (by decide) (by omega)
  have h4 := hset k b hk hblen
  rw [Nat.mul_comm 64 k] at h4
  have hbl : (bv b).length = 64 := by rw [bv_length, hblen]
  replace hblen := Go.Lib.hid hblen
  go_upto_region 9 with ((with_reducible show wpList _ _ _ (Oper.mk (some 49) _ _ _ _ _ :: _) _ _); refine wpList_copy_own (o := ⟨some 49, _, _, _, _, _⟩) rfl (.tmp 47) (.tmp 48) 22 22 rfl 5 Tryd.underlying22 infoU8 s (k * 64) 64 64 ad 64 c rfl rfl cur.toArray 84 hcur (bv b) (by rw [hbl]; rfl) hb3.news (by rw [hbl]; simp; omega) (bv_one b) ?_)
  have hC4 := chg_setRow hC3 (s := s) (.inr (.inl rfl)) (cur.take (k * 64) ++ (bv b ++ cur.drop (k * 64 + (bv b).length))).toArray
  clear hcur hset hb3 hcl c0 h3 hC3
  generalize w3.setRow s (cur.take (k * 64) ++ (bv b ++ cur.drop (k * 64 + (bv b).length))).toArray = w4 at h4 hC4
  have c1 := h4.c1
  have hgl := h4.lt g (.inl rfl)
  have htr := h4.tr
  obtain ⟨i0, hi0, hz0, hz1, hz2⟩ := info_parts info_int
  go_upto_region 10 with ((at_builtin; go_must (refine wpList_append_own_at (o := ⟨some 57, _, _, _, _, _⟩) _ rfl (.tmp 54) (.tmp 56) 63 rfl 0 3 i0 (.int .i64 0) 1 8 Tryd.underlying63 hi0 hz0 hz1 hz2 rfl (by omega) tv d.trail.length (iv d.trail) rfl (htr.alloc _) ⟨w4.heap.size, 0, none⟩ 1 1 [.int .i64 (k : Int)] rfl rfl (World.news_of_block (cs := #[.int .i64 (k : Int)]) (t := 3) (fr := (0, 0)) (heap_alloc_new w4 _)) (by intro u hu; simp at hu; subst hu; rfl) (by simp only [maxLen]; omega) (by omega) (Nat.zero_le _) ?_); go_must (intro v5 w5 hown5 hg5 _ hat5; obtain ⟨A5, c5, e5⟩ := own_slice hown5; subst e5; have hg6 := World.grownBy.trans (World.grownBy_alloc w4 _ _) hg5; have hb5 := h4.blk5 (by decide) hg6; have x1 := cell_of_row w5 g 1 _ _ _ hb5; have x2 := cell_of_row w5 g 2 _ _ _ hb5; have y1 := frozen_of_row w5 g 1 _ _ hb5; have y2 := frozen_of_row w5 g 2 _ _ hb5; simp at x1 x2)))
  have h6 := h4.trl (z := (k : Int)) (by decide) (by decide) (by decide) hg6 hown5
  have hC6 : Chg (Foot g (.slice (some ⟨s, 0, none⟩) n cs) tv) w (w5.setCell ⟨g, 1, none⟩ (.slice A5 (d.trail.length + 1) c5)) := (hC4.grown hg6 (fun j hj _ => .inr (.inr hj))).setCell (.inl rfl) _
  have hnew : (Value.slice A5 (d.trail.length + 1) c5).ownBlock = tv.ownBlock ∨ ∃ j, (Value.slice A5 (d.trail.length + 1) c5).ownBlock = some j ∧ w.heap.size ≤ j := by
    rcases hat5 with h0 | h0
    · exact .inl h0
    · exact .inr ⟨_, h0, Nat.le_trans hC4.size (by simp)⟩
  clear x1 x2 y1 y2 hb5 hg5 hg6 hown5 hat5 c1 htr h4 hC4 hgl
  generalize (Value.slice A5 (d.trail.length + 1) c5) = tv5 at h6 hC6 hnew
  generalize w5.setCell ⟨g, 1, none⟩ tv5 = w6 at h6 hC6
  have c2 := h6.c2
  have f2 := h6.fz 2
  have hlo : -1 ≤ d.armed := h6.lo
  have hhi : d.armed ≤ 9223372036854775807 := h6.hi
  simp only at c2 f2
  by_cases hpos : 0 < d.armed
  · go_wp2
    go_ret
    refine ⟨rfl, tv5, ?_, hC6.setCell (.inl rfl) _, hnew⟩
    rw [hD.out, if_pos hpos, Nat.mul_comm 64 k]
    exact h6.set2 (by decide) (by decide) (d.armed - 1) (by omega) (by omega)
  · go_wp2
    go_ret
    refine ⟨rfl, tv5, ?_, hC6, hnew⟩
    rw [hD.out, if_neg (by omega), Nat.mul_comm 64 k]
    exact h6

theorem write_out (w : World) (g n : Nat) (sv tv : Value) (d : DS) (z : Int) (A : Option Addr) (m c : Nat) (b : List UInt8) (h : PDsk w g sv tv n d) (hz : ¬ (0 ≤ z ∧ z < n)) :
    Calls Tryd.prog 11 #[.pointer (some ⟨g, 0, none⟩), .int .i64 z, .slice A m c] w (Acts 82 84 64 n (.int .i64 2) g n sv tv (writeOf n d z b).1 w) := by
  rw [writeOf_out n d z b hz]
  have c0 := h.c0
  obtain ⟨As, cs, hv⟩ := h.sv
  subst hv
  by_cases hlo : z < 0
  · go_enter Tryd.func11, Tryd.ntmps11
    go_wp2
    go_ret
    exact ⟨rfl, tv, h, Chg.refl _ _, .inl rfl⟩
  · have hlo' : 0 ≤ z := by omega
    have hhi : (n : Int) ≤ z := by omega
    go_enter Tryd.func11, Tryd.ntmps11
    go_wp2
    go_ret
    exact ⟨rfl, tv, h, Chg.refl _ _, .inl rfl⟩
theorem write_long (w : World) (g n : Nat) (sv tv : Value) (d : DS) (k : Nat) (A : Option Addr) (m c : Nat) (b : List UInt8) (h : PDsk w g sv tv n d) (hk : k < n) (hb : b.length = m) (hm : m ≠ 64) (hm2 : m ≤ 9223372036854775807) :
    Calls Tryd.prog 11 #[.pointer (some ⟨g, 0, none⟩), .int .i64 k, .slice A m c] w (Acts 82 84 64 n (.int .i64 9) g n sv tv (writeOf n d k b).1 w) := by
  rw [writeOf_long n d k b (by omega) (by omega)]
  have c0 := h.c0
  obtain ⟨As, cs, hv⟩ := h.sv
  subst hv
  have hm3 : ((m : Int) != 64) = true := by simp; omega
  clear hb
  go_enter Tryd.func11, Tryd.ntmps11
  go_wp2
  go_ret
  exact ⟨rfl, tv, h, Chg.refl _ _, .inl rfl⟩
theorem write_down (w : World) (g n : Nat) (sv tv : Value) (d : DS) (k : Nat) (A : Option Addr) (c : Nat) (b : List UInt8) (h : PDsk w g sv tv n d) (hk : k < n) (hb : b.length = 64) (hd : d.down = true ∨ d.armed = 0) :
    Calls Tryd.prog 11 #[.pointer (some ⟨g, 0, none⟩), .int .i64 k, .slice A 64 c] w (Acts 82 84 64 n (.int .i64 50) g n sv tv (writeOf n d k b).1 w) := by
  rw [writeOf_down n d k b (by omega) hb hd]
  have c0 := h.c0
  have c2 := h.c2
  have c3 := h.c3
  have f3 := h.fz 3
  have h3 := h.set3 (by decide) (by decide) true
  obtain ⟨As, cs, hv⟩ := h.sv
  subst hv
  clear hb
  by_cases hdn : d.down = true
  · rw [hdn] at c3
    clear hd
    go_enter Tryd.func11, Tryd.ntmps11
    go_wp2
    go_ret
    exact ⟨rfl, tv, h3, (Chg.refl _ _).setCell (.inl rfl) _, .inl rfl⟩
  · have ha : d.armed = 0 := by rcases hd with hd | hd; exact absurd hd hdn; exact hd
    rw [ha] at c2
    have hdf : d.down = false := by simpa using hdn
    rw [hdf] at c3
    clear hd hdn hdf ha
    go_enter Tryd.func11, Tryd.ntmps11
    go_wp2
    go_ret
    exact ⟨rfl, tv, h3, (Chg.refl _ _).setCell (.inl rfl) _, .inl rfl⟩
/-- ████ every Write ████ -/
theorem write_walk (w : World) (g n : Nat) (sv tv : Value) (d : DS) (z : Int) (A : Option Addr) (m c : Nat) (b : List UInt8) (h : PDsk w g sv tv n d) (hb : Bys w A m b) (ht : d.trail.length ≤ 1000000) :
    Calls Tryd.prog 11 #[.pointer (some ⟨g, 0, none⟩), .int .i64 z, .slice A m c] w (Acts 82 84 64 n (.int .i64 (writeOf n d z b).2) g n sv tv (writeOf n d z b).1 w) := by
  by_cases hz : 0 ≤ z ∧ z < n
  · obtain ⟨k, rfl⟩ := Int.eq_ofNat_of_zero_le hz.1
    by_cases hm : m = 64
    · subst hm
      by_cases hd : d.down = true ∨ d.armed = 0
      · have := write_down w g n sv tv d k A c b h (by omega) hb.len hd
        rwa [show (writeOf n d (k : Int) b).2 = 50 by rw [writeOf_down n d k b hz hb.len hd]]
      · have h1 : d.down = false := by
          cases hq : d.down
          · rfl
          · exact absurd (.inl hq) hd
        have h2 : d.armed ≠ 0 := fun e => hd (.inr e)
        have := write_ok w g n sv tv d k A c b h (by omega) hb h1 h2 ht
        rwa [show (writeOf n d (k : Int) b).2 = 0 by rw [writeOf_n n d k b (by omega) hb.len h1 h2]]
    · have := write_long w g n sv tv d k A m c b h (by omega) hb.len hm hb.max
      rwa [show (writeOf n d (k : Int) b).2 = 9 by rw [writeOf_long n d k b hz (by rw [hb.len]; exact hm)]]
  · have := write_out w g n sv tv d z A m c b h hz
    rwa [show (writeOf n d z b).2 = 2 by rw [writeOf_out n d z b hz]]
end Go.Proofs.YtggogenhakdhiaaDoor
