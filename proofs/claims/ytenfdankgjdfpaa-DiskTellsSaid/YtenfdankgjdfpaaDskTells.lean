/- DiskTells walked. -/
import Derived.Test.YtenfdankgjdfpaaOps
import Derived.Test.YtenfdankgjdfpaaDskTrail
import Derived.Lib.Hide
import Derived.Deep.RegionHeldLaw
import Derived.Deep.DrawnRows
attribute [local go_sem ↓] Go.wp_at_zero Go.wp_at_succ
set_option linter.unusedVariables false
set_option linter.unusedSimpArgs false
namespace Go.Proofs.Ytenfdankgjdfpaa
open Go.RowKit

/-- five hundred and twelve zeros (under a name: laid open it is a long list) -/
def z512 : List UInt8 := List.replicate 512 0
theorem z512_length : z512.length = 512 := by unfold z512; rw [List.length_replicate]
theorem made512 : madeCells (Value.int .u8 0).cells (512 * 1) = (bv z512).toArray := made_zeros _ 1 512 rfl (by omega)
/-- behind j acts: the disk, the wanted image (block gw), the wanted trail v -/
def TellS (B gw ga : Nat) (sa : Value) (w : World) (j : Nat) (v : Value) : Prop :=
  ∃ ta d, PDsk w ga sa ta 8 d ∧ d.armed = -1 ∧ d.down = false ∧ d.trail.length = j ∧ w.heap[gw]? = some (.cells (bv d.img).toArray 5 (0, 0)) ∧ w.ownsRow B 3 1 v j (iv d.trail) ∧
    (∀ k, Foot ga sa ta k → B ≤ k ∧ k ≠ gw) ∧ (∀ k, v.ownBlock = some k → k ≠ gw ∧ ¬ Foot ga sa ta k)
theorem splice_arr (img sq : List UInt8) (q : Nat) : ((bv img).toArray.toList.take (q * 64) ++ (bv sq ++ (bv img).toArray.toList.drop (q * 64 + (bv sq).length))).toArray = (bv (splice img (64 * q) sq)).toArray := by
  unfold splice
  rw [bv_append, bv_append, bv_length]
  simp [bv, Nat.mul_comm, List.map_take, List.map_drop]
theorem step_copy_own {P : Program} {ops : Array Oper} {o : Oper} {a : Act} {w : World} {K : Act → World → Prop} {Q : Exit → Act → World → Prop} {E : Prop} (hgd : o.guard = none) (d s : Operand) (dT sT : TypeId)
    (ho : o.op = .call { callee := .builtin .copy, args := #[d, s], argTypes := #[dT, sT] }) (elem : TypeId) (hu : P.underlying dT = some (.slice elem)) (hsz : (P.info? elem).map (·.size) = some 1)
    (g off dLen dCap : Nat) (ad : Addr) (sLen sCap : Nat) (hd : a.eval d = .slice (some ⟨g, off, none⟩) dLen dCap) (hs : a.eval s = .slice (some ad) sLen sCap)
    (cur : Array Value) (t : TypeId) (hg : w.heap[g]? = some (.cells cur t (0, 0))) (cs : List Value) (hn : cs.length = Nat.min sLen dLen)
    (hsrc : ∀ j v, cs[j]? = some v → w.cell? (ad.add j) = some v) (hfit : off + cs.length ≤ cur.size) (h1 : ∀ v ∈ cs, v.oneCell' = true)
    (h : ∀ w1, w1 = w.setRow g (cur.toList.take off ++ (cs ++ cur.toList.drop (off + cs.length))).toArray → K (a.put o.dst (goInt cs.length)) w1) :
    if Region.wanted o (yielded ops a.tmps) = true then Oper.wp P o a w K Q else E := by
  have hw : Region.wanted o (yielded ops a.tmps) = true := by simp [Region.wanted, hgd]
  rw [if_pos hw]
  have hrun := run_copy_row (P := P) w dT sT o.type elem g off dLen dCap ad sLen sCap cur t cs hu hsz hg hn hsrc hfit h1
  unfold Oper.wp
  simp [execOp, ho, resolve, invoke, builtin, hd, hs, hrun, Result.andThen]
  exact h _ rfl
theorem iv_drop (l : List Int) (k : Nat) : (iv l).drop k = iv (l.drop k) := by simp [iv, List.map_drop]
theorem own_in {w : World} {base n : Nat} {e : TypeId} {size : Nat} {v : Value} {xs : List Value} (h : w.ownsRow base e size v n xs) {k : Nat} (hk : v.ownBlock = some k) : base ≤ k ∧ k < w.heap.size := by
  rcases h.2 with ⟨rfl, _⟩ | ⟨g, cap, cur, rfl, hb, hh, _⟩
  · cases hk
  · have e : g = k := by simpa [Value.ownBlock] using hk
    subst e
    exact ⟨hb, (Array.getElem?_eq_some_iff.1 hh).1⟩
theorem tells_long (w : World) (A : Option Addr) (n c : Nat) (hn : 200 < n) :
    Calls Try.prog 5 #[.slice A n c] w (Tells w.heap.size (.bool true) w) := by
  have H1 := works_walk w
  go_enter Try.func5, Try.ntmps5
  go_wp2_with (go_at_call 10; go_must (refine H1.mono ?_); rintro e w1 ⟨rfl, hB1⟩)
  go_ret
  exact ⟨rfl, hB1⟩
set_option maxHeartbeats 4000000 in
set_option maxRecDepth 20000 in
theorem tells_walk (w : World) (A : Option Addr) (n c : Nat) (l : List OpV) (hl : OpsAt w A n l) (hn : n ≤ 200) :
    Calls Try.prog 5 #[.slice A n c] w (Tells w.heap.size (.bool true) w) := by
  have H1 := works_walk w
  go_enter Try.func5, Try.ntmps5
  go_upto_region 5 with (go_at_call 10; go_must (refine H1.mono ?_); rintro e w1 ⟨rfl, hB1⟩)
  have H2 := new_in w1 8 (by omega) (by omega)
  go_upto_region 8 with (go_at_call 11; go_must (refine H2.mono ?_); intro e w2 hR; rw [RetNew, if_pos (by omega)] at hR; obtain ⟨ga, sa, ta, rfl, hDa, hFa, hB2⟩ := hR)
  have hz1 := hB1.size
  have hz2 := hB2.size
  go_upto_region 10 with (at_make; go_must (refine wpList_make (o := ⟨some 24, _, _, _, _, _⟩) rfl 39 5 (.const (.int .i64 512)) rfl 512 rfl (.int .u8 0) 1 1 Try.underlying39 info_u8 (by omega) (by omega) ?_; rw [made512]))
  have hblk := heap_alloc_new w2 (.cells (bv z512).toArray 5)
  have hB3 : Below w2.heap.size w2 (w2.alloc (.cells (bv z512).toArray 5)) := (Below.refl _ _).alloc (Nat.le_refl _) _
  have hz3 := hB3.size
  have hDa3 : PDsk (w2.alloc (.cells (bv z512).toArray 5)) ga sa ta 8 (zeroDS 8) := hDa.below hB3
  have hlt : ∀ k, Foot ga sa ta k → k < w2.heap.size := hDa.lt
  obtain ⟨gw, hgw⟩ : ∃ x, x = w2.heap.size := ⟨_, rfl⟩
  rw [← hgw] at hblk hlt ⊢
  have hzz : z512 = (zeroDS 8).img := rfl
  have hS : TellS w.heap.size gw ga sa (w2.alloc (.cells (bv z512).toArray 5)) 0 (.slice none 0 0) :=
    ⟨ta, zeroDS 8, hDa3, rfl, rfl, rfl, by rw [← hzz]; exact hblk, own_nil _ _ _ _, fun k hk => ⟨by have := hFa k hk; omega, by have := hlt k hk; omega⟩, fun k hk => by cases hk⟩
  have hB03 : Below w.heap.size w (w2.alloc (.cells (bv z512).toArray 5)) := (hB1.trans (hB2.mono hz1)).trans (hB3.mono (by omega))
  have hgB : w.heap.size ≤ gw := by omega
  clear H1 H2 hB1 hB2 hDa hDa3 hFa hlt hblk hB3 hzz
  generalize w2.alloc (.cells (bv z512).toArray 5) = w3 at *
  clear hgw hz1 hz2 hz3
  have hz3 := hB03.size
  go_wp2
  go_loopw [6, 7] (fun v i wr => ∃ j : Nat, j ≤ n ∧ i = .int .i64 j ∧ Below w.heap.size w wr ∧ TellS w.heap.size gw ga sa wr j v) (fun _ i _ => n - (intOf i).toNat)
  case atStart => exact ⟨0, by omega, rfl, hB03, hS⟩
  case round =>
    clear hS hB03 hz3
    obtain ⟨j, hj, rfl, hBr, ta, d, hDa, harm, hdn, htl, hwant, hown, hFa, hsep⟩ := hrel
    have hzr := hBr.size
    obtain ⟨At, ct, rfl⟩ := own_slice hown
    by_cases hlt : j < n
    · have hlen := hl.len
      obtain ⟨G, O, Ab, nb, cb, rfl, -, v1, -, v3, hbw, -⟩ := hl.cell j l[j] (List.getElem?_eq_getElem (by omega))
      generalize l[j] = o at *
      obtain ⟨ok, oa, on, ob, ot⟩ := o
      simp only at v1 v3 hbw
      have y1 := cell_below hBr v1
      have y3 := cell_below hBr v3
      go_upto_region 14 with fail
      obtain ⟨q, hq, eq⟩ := modk oa 8 (by omega) (by omega)
      rw [eq]
      clear eq
      have hta : d.trail.length ≤ 1000000 := by omega
      have hsb := secBytes_length ob
      have H5 : ∀ w', Bys w' Ab nb ob → Calls Try.prog 14 #[.slice Ab nb cb] w' (RetBys w'.heap.size 5 (secBytes ob) w') := fun w' hb => sector_walk w' Ab nb cb ob hb
      replace H5 := Go.Lib.hid H5
      generalize secBytes ob = sq at *
      have hgo := writeOf_goes 8 d (q : Int) sq (by omega) hsb hdn (by omega)
      have hil := hDa.len
      obtain ⟨d1, hd1⟩ : ∃ x, x = (writeOf 8 d (q : Int) sq).1 := ⟨_, rfl⟩
      have h50 : (writeOf 8 d (q : Int) sq).2 = 0 := by rw [hgo]
      have e1 : d1.img = splice d.img (64 * q) sq := by rw [hd1, hgo]; rfl
      have e2 : d1.trail = d.trail ++ [(q : Int)] := by rw [hd1, hgo]
      have e3 : d1.armed = -1 := by rw [hd1, hgo]; simp [harm]
      have e4 : d1.down = false := by rw [hd1, hgo]
      clear hgo
      replace h50 := Go.Lib.hid h50
      replace hd1 := Go.Lib.hid hd1
      replace hsb := Go.Lib.hid hsb
      replace e1 := Go.Lib.hid e1
      replace e2 := Go.Lib.hid e2
      replace hil := Go.Lib.hid hil
      clear hl hlen harm hdn
      go_upto_region 16 with (first
        | (go_at_call 14; go_must (refine (H5 wr (hbw.below hBr)).mono ?_); rintro e w5 ⟨A5, c5, rfl, hown5, hB5⟩)
        | (go_at_call 13; go_must (refine (write_walk w5 ga 8 sa ta d q A5 sq.length c5 sq (hDa.below hB5) (Bys.own hown5) hta).mono ?_); rintro e w6 ⟨rfl, ta6, hDa6, hC6, ht6⟩; rw [show (writeOf 8 d (q : Int) sq).2 = 0 from h50]))
      rw [← show d1 = (writeOf 8 d (q : Int) sq).1 from hd1] at hDa6
      have hz5 := hB5.size
      have hz6 := hC6.size
      have hgl : gw < wr.heap.size := by
        have := (Array.getElem?_eq_some_iff.1 hwant).1
        exact this
      have hB06 : Below w.heap.size w w6 := (hBr.trans (hB5.mono hzr)).trans (hC6.below (by omega) (fun j h1 h2 => absurd (hFa j h2).1 (by omega)))
      have hw6 : w6.heap[gw]? = some (.cells (bv d.img).toArray 5 (0, 0)) := by
        rw [hC6.block gw (by omega) (fun h => (hFa gw h).2 rfl), hB5.block gw hgl]; exact hwant
      have hown6 : w6.ownsRow w.heap.size 3 1 (.slice At j ct) j (iv d.trail) :=
        own_at hown (fun k hk => by
          have hk2 := (own_in hown hk).2
          rw [hC6.block k (by omega) (hsep k hk).2, hB5.block k hk2])
      have x3 := cell_below hB06 v3
      have hb6 := hbw.below hB06
      have hq1 : (0 : Int) ≤ (q : Int) * 64 := by omega
      have hq2 : (q : Int) * 64 ≤ 512 := by omega
      have hq3 : IntKind.i64.wrap ((q : Int) * 64) = (q : Int) * 64 := by rw [IntKind.wrap_i64]; omega
      have hq4 : ((q : Int) * 64).toNat = q * 64 := by omega
      have hq5 : ¬ 512 = q * 64 := by omega
      have hGlt : G < w.heap.size := World.block_lt_of_cell? w _ v3
      have hgw : w.heap.size ≤ gw := hgB
      have x3' : w6.drew.cell? ⟨G, O + j * 5 + 3, none⟩ = some (.slice Ab nb cb) := x3
      have hw6' : w6.drew.heap[gw]? = some (.cells (bv d.img).toArray 5 (0, 0)) := hw6
      go_region_held_law (fun w' => w'.cell? ⟨G, O + j * 5 + 3, none⟩ = some (.slice Ab nb cb)) ((first | assumption | go_keep)) ((first
        | (go_at_call 14; refine ((show ∀ w', Bys w' Ab nb ob → Calls Try.prog 14 #[.slice Ab nb cb] w' (RetBys w'.heap.size 5 sq w') from H5) _ (hb6.below (below_drew (Below.refl _ _)))).mono ?_; rintro e w7 ⟨A7, c7, rfl, hown7, hB7⟩; obtain ⟨g7, c7', hv7, -, hg7, -, -, hx7⟩ := own_some hown7 (by rw [show sq.length = 64 from hsb]; omega); cases hv7; have hw7 : w7.heap[gw]? = some (.cells (bv d.img).toArray 5 (0, 0)) := (hB7.block gw (by show gw < w6.heap.size; omega)).trans hw6'; have x7 := cell_below hB7 x3'; have hn7 : (bv sq).length = Nat.min sq.length (512 - q * 64) := by rw [bv_length, show sq.length = 64 from hsb]; exact (Nat.min_eq_left (by omega)).symm)
        | (refine step_copy_own (o := ⟨some 59, _, _, _, _, _⟩) (by rfl) (.tmp 52) (.tmp 58) 39 39 (by rfl) 5 Try.underlying39 infoU8 gw (q * 64) (512 - q * 64) (512 - q * 64) ⟨g7, 0, none⟩ sq.length c7 (by rfl) (by rfl) (bv d.img).toArray 5 hw7 (bv sq) hn7 (Bys.own hown7).news (by rw [bv_length, show sq.length = 64 from hsb, List.size_toArray, bv_length, show d.img.length = 64 * 8 from hil]; omega) (bv_one _) ?_; intro w8 hw8; rw [splice_arr, ← show d1.img = splice d.img (64 * q) sq from e1] at hw8; have x8 : w8.cell? ⟨G, O + j * 5 + 3, none⟩ = some (.slice Ab nb cb) := by rw [hw8]; rw [World.cell?_of_block (setRow_other w7 gw G _ (by omega))]; exact x7)))
      have hC7 : Chg (fun k => k = gw ∨ (Value.slice At j ct).ownBlock = some k) w6 w7 := (Chg.refl _ w6).drew.trans (Chg.of_below (S := fun k => k = gw ∨ (Value.slice At j ct).ownBlock = some k) hB7) (fun _ h _ => h)
      have hC8 : Chg (fun k => k = gw ∨ (Value.slice At j ct).ownBlock = some k) w6 w8 := by rw [hw8]; exact chg_setRow hC7 (.inl rfl) _
      have hown8 : w8.ownsRow w.heap.size 3 1 (.slice At j ct) j (iv d.trail) := own_at hown6 (fun k hk => by
        have hk6 := (own_in hown6 hk).2
        rw [hw8, setRow_other w7 gw k _ (hsep k hk).1]
        exact hB7.block k hk6)
      have hw8g : w8.heap[gw]? = some (.cells (bv d1.img).toArray 5 (0, 0)) := by
        rw [hw8]
        exact setRow_heap w7 gw _ _ _ _ hw7
      have hz8 := hC8.size
      have hlt6 : ∀ k, Foot ga sa ta6 k → k < w6.heap.size := hDa6.lt
      have hsep6 : ∀ k, Foot ga sa ta6 k → w.heap.size ≤ k ∧ k ≠ gw ∧ (Value.slice At j ct).ownBlock ≠ some k := by
        intro k hk
        rcases foot_step ht6 hk with h | h
        · exact ⟨(hFa k h).1, (hFa k h).2, fun e => (hsep k e).2 h⟩
        · exact ⟨by omega, by omega, fun e => by have := (own_in hown e).2; omega⟩
      have hDa8 := hDa6.chg hC8 (fun k hk e => by rcases e with e | e; exact (hsep6 k hk).2.1 e; exact (hsep6 k hk).2.2 e)
      have hB08 : Below w.heap.size w w8 := hB06.trans (hC8.below (by omega) (fun k hk e => by rcases e with e | e; omega; (have := (own_in hown e).1; omega)))
      clear hw8 hB7 hown7 hg7 hx7 hw7 x7 hn7 x8 x3 x3' hw6 hw6' hC6 hB5 hown5 hown6 hb6 hq1 hq2 hq3 hq4 hq5 hC7 hB06 hwant ht6
      obtain ⟨i0, hi0, hzz0, hzz1, hzz2⟩ := info_parts info_int
      go_upto_region 12 with ((at_builtin; go_must (refine wpList_append_own_at (o := ⟨some 63, _, _, _, _, _⟩) _ rfl (.tmp 60) (.tmp 62) 47 rfl w.heap.size 3 i0 (.int .i64 0) 1 8 Try.underlying47 hi0 hzz0 hzz1 hzz2 rfl (by omega) (.slice At j ct) j (iv d.trail) rfl (hown8.alloc _) ⟨w8.heap.size, 0, none⟩ 1 1 [.int .i64 (q : Int)] rfl rfl (World.news_of_block (cs := #[.int .i64 (q : Int)]) (t := 3) (fr := (0, 0)) (heap_alloc_new w8 _)) (by intro u hu; simp at hu; subst hu; rfl) (by simp only [maxLen]; omega) (by omega) (by simp; omega) ?_); go_must (intro v9 w9 hown9 hg9 _ hat9; obtain ⟨A9, c9, e9⟩ := own_slice hown9; subst e9; have hg9' := World.grownBy.trans (World.grownBy_alloc w8 _ _) hg9)))
      go_wp2
      go_roundw
      case rel =>
        have hC9 : Chg (fun k => k = gw ∨ (Value.slice At j ct).ownBlock = some k) w8 w9 := (Chg.refl _ w8).grown hg9' (fun k hk _ => .inr hk)
        have hz9 := hC9.size
        have hDa9 := hDa8.chg hC9 (fun k hk e => by rcases e with e | e; exact (hsep6 k hk).2.1 e; exact (hsep6 k hk).2.2 e)
        have hne : some gw ≠ (Value.slice At j ct).ownBlock := fun e => (hsep gw e.symm).1 rfl
        refine ⟨j + 1, hlt, by go_num, hB08.trans (hC9.below (by have := hB08.size; omega) (fun k hk e => by rcases e with e | e; omega; (have := (own_in hown e).1; omega))), ta6, d1, hDa9, e3, e4, ?_, ?_, ?_, fun k hk => ⟨(hsep6 k hk).1, (hsep6 k hk).2.1⟩, ?_⟩
        · rw [show d1.trail = _ from e2, List.length_append, htl]; rfl
        · rw [hg9'.block gw (by omega) hne]; exact hw8g
        · rw [show d1.trail = _ from e2, iv_append]; exact hown9
        · intro k hk
          rcases hat9 with h | h
          · rw [h] at hk
            exact ⟨(hsep k hk).1, fun hf => (hsep6 k hf).2.2 hk⟩
          · rw [h] at hk
            have hk2 : k = w8.heap.size + 1 := by simpa using hk.symm
            exact ⟨by omega, fun hf => by have := hlt6 k hf; omega⟩
      case measure => simp [intOf]; omega
    · have hjn : j = n := by omega
      subst hjn
      have hta : d.trail.length ≤ 1000000 := by omega
      have hgl : gw < wr.heap.size := (Array.getElem?_eq_some_iff.1 hwant).1
      have hbw : Bys wr (some ⟨gw, 0, none⟩) 512 d.img := ⟨hDa.len, by omega, fun i hi => ⟨_, rfl, World.news_of_block hwant i _ (by
        have := hDa.len
        show (bv d.img)[i]? = _
        rw [bv_getElem?, List.getD_eq_getElem?_getD, List.getElem?_eq_getElem (by omega)]; rfl)⟩⟩
      have hrw : Rdv wr At j (iv d.trail) := by have := Rdv.of_own hown; exact this
      have hjc : j ≤ ct := by
        rcases hown.2 with ⟨e, e2⟩ | ⟨g, cap, cur, e, _, _, h, _⟩
        · omega
        · cases e; exact h
      have hform : At = none ∨ ∃ g, At = some ⟨g, 0, none⟩ := by
        rcases hown.2 with ⟨e, _⟩ | ⟨g, cap, cur, e, _⟩
        · cases e; exact .inl rfl
        · cases e; exact .inr ⟨g, rfl⟩
      have hd0 : Below wr.heap.size wr wr.drew := below_drew (Below.refl _ _)
      have HI : ∀ w', Below wr.heap.size wr w' → Calls Try.prog 15 #[.pointer (some ⟨ga, 0, none⟩)] w' (RetBys w'.heap.size 5 d.img w') := fun w' hb => image_walk w' ga 8 sa ta d (hDa.below hb)
      have HT : ∀ w' z, Below wr.heap.size wr w' → Calls Try.prog 20 #[.pointer (some ⟨ga, 0, none⟩), .int .i64 z] w' (RetInts w'.heap.size (trailOf d z) w') := fun w' z hb => trail_walk w' ga 8 sa ta d z (hDa.below hb) hta
      have HW : ∀ w', Below wr.heap.size wr w' → Calls Try.prog 17 #[.pointer (some ⟨ga, 0, none⟩)] w' (Says (.int .i64 (j : Nat)) w') := fun w' hb => by
        have := writes_walk w' ga 8 sa ta d (hDa.below hb)
        rwa [htl] at this
      have hT0 : trailOf d 0 = d.trail := by unfold trailOf; simp
      obtain ⟨h2, hh2⟩ : ∃ x, x = j / 2 := ⟨_, rfl⟩
      have hq6 : IntKind.i64.wrap ((j : Int) / 2) = (h2 : Int) := by rw [IntKind.wrap_i64]; omega
      have hh3 : h2 ≤ j := by omega
      have hh4 : (h2 : Int) ≤ (j : Int) := by omega
      have hh5 : (0 : Int) ≤ (h2 : Int) := by omega
      have hT2 : trailOf d (h2 : Int) = d.trail.drop h2 := by unfold trailOf; congr 1; omega
      clear hh2
      have s0 := (hbw.below hd0).string (P := Try.prog) Try.underlying39 Try.underlying5 Try.underlying9 512
      replace HI := Go.Lib.hid HI
      replace HT := Go.Lib.hid HT
      replace HW := Go.Lib.hid HW
      replace hT0 := Go.Lib.hid hT0
      replace hT2 := Go.Lib.hid hT2
      replace htl := Go.Lib.hid htl
      have hIs := hDa.len
      replace hIs := Go.Lib.hid hIs
      clear hDa harm hdn hwant hown hFa hsep hl hta
      have hrs0 := hrw.drop_if h2 ct hh3 hjc
      rw [iv_drop] at hrs0
      rcases hform with rfl | ⟨gv, rfl⟩
      · have hrs : Rdv wr none (j - h2) (iv (d.trail.drop h2)) := by split at hrs0 <;> exact hrs0
        clear hrs0
        go_upto_region 18 with fail
        go_region_held_law (fun _ => True) (trivial) ((first
          | (go_at_call 17; refine ((show ∀ w', Below wr.heap.size wr w' → Calls Try.prog 17 #[.pointer (some ⟨ga, 0, none⟩)] w' (Says (.int .i64 (j : Nat)) w') from HW) _ hd9).mono ?_; rintro e w10 ⟨rfl, rfl⟩)
          | (go_at_call 19; refine (sameInts_walk w8 A8 _ (d.trail.length - h2) (j - h2) c8 _ (d.trail.drop h2) (d.trail.drop h2) (Rdv.of_own hown8) (hrs.below hd8) (by rw [show d.trail.length = j from htl]; omega) (by omega)).mono ?_; rintro e w9 ⟨rfl, hB9⟩; rw [show decide (d.trail.drop h2 = d.trail.drop h2) = true by simp]; have hd9 := hd8.trans (hB9.mono hd8.size))
          | (go_at_call 20; refine ((show ∀ w' z, Below wr.heap.size wr w' → Calls Try.prog 20 #[.pointer (some ⟨ga, 0, none⟩), .int .i64 z] w' (RetInts w'.heap.size (trailOf d z) w') from HT) w7 (h2 : Int) hd7).mono ?_; rw [show trailOf d (h2 : Int) = d.trail.drop h2 from hT2]; rintro e w8 ⟨A8, c8, rfl, hown8, hB8⟩; rw [List.length_drop] at hown8; have hd8 := hd7.trans (hB8.mono hd7.size))
          | (go_at_call 19; refine (sameInts_walk w6 A6 _ d.trail.length j c6 _ d.trail d.trail (Rdv.of_own hown6) (hrw.below hd6) (by have := (show d.trail.length = j from htl); omega) (by omega)).mono ?_; rintro e w7 ⟨rfl, hB7⟩; have hd7 := hd6.trans (hB7.mono hd6.size); rw [show decide (d.trail = d.trail) = true by simp])
          | (go_at_call 20; refine ((show ∀ w' z, Below wr.heap.size wr w' → Calls Try.prog 20 #[.pointer (some ⟨ga, 0, none⟩), .int .i64 z] w' (RetInts w'.heap.size (trailOf d z) w') from HT) w5 0 hd5).mono ?_; rw [show trailOf d 0 = d.trail from hT0]; rintro e w6 ⟨A6, c6, rfl, hown6, hB6⟩; have hd6 := hd5.trans (hB6.mono hd5.size))
          | (go_at_call 15; refine ((show ∀ w', Below wr.heap.size wr w' → Calls Try.prog 15 #[.pointer (some ⟨ga, 0, none⟩)] w' (RetBys w'.heap.size 5 d.img w') from HI) _ hd0).mono ?_; rintro e w5 ⟨A5, c5, rfl, hown5, hB5⟩; have hd5 := hd0.trans hB5; have s5 := (Bys.own hown5).string (P := Try.prog) Try.underlying39 Try.underlying5 Try.underlying9 c5; have s6 := (hbw.below hd5).string (P := Try.prog) Try.underlying39 Try.underlying5 Try.underlying9 512)))
        all_goals (go_wp2; go_ret; exact ⟨rfl, hBr.trans (hd9.mono hzr)⟩)
      · by_cases hch : ct = h2
        · have hrs : Rdv wr (some ⟨gv, 0, none⟩) (j - h2) (iv (d.trail.drop h2)) := by rw [if_pos hch] at hrs0; exact hrs0
          clear hrs0
          go_upto_region 18 with fail
          go_region_held_law (fun _ => True) (trivial) ((first
            | (go_at_call 17; refine ((show ∀ w', Below wr.heap.size wr w' → Calls Try.prog 17 #[.pointer (some ⟨ga, 0, none⟩)] w' (Says (.int .i64 (j : Nat)) w') from HW) _ hd9).mono ?_; rintro e w10 ⟨rfl, rfl⟩)
            | (go_at_call 19; refine (sameInts_walk w8 A8 _ (d.trail.length - h2) (j - h2) c8 _ (d.trail.drop h2) (d.trail.drop h2) (Rdv.of_own hown8) (hrs.below hd8) (by rw [show d.trail.length = j from htl]; omega) (by omega)).mono ?_; rintro e w9 ⟨rfl, hB9⟩; rw [show decide (d.trail.drop h2 = d.trail.drop h2) = true by simp]; have hd9 := hd8.trans (hB9.mono hd8.size))
            | (go_at_call 20; refine ((show ∀ w' z, Below wr.heap.size wr w' → Calls Try.prog 20 #[.pointer (some ⟨ga, 0, none⟩), .int .i64 z] w' (RetInts w'.heap.size (trailOf d z) w') from HT) w7 (h2 : Int) hd7).mono ?_; rw [show trailOf d (h2 : Int) = d.trail.drop h2 from hT2]; rintro e w8 ⟨A8, c8, rfl, hown8, hB8⟩; rw [List.length_drop] at hown8; have hd8 := hd7.trans (hB8.mono hd7.size))
            | (go_at_call 19; refine (sameInts_walk w6 A6 _ d.trail.length j c6 _ d.trail d.trail (Rdv.of_own hown6) (hrw.below hd6) (by have := (show d.trail.length = j from htl); omega) (by omega)).mono ?_; rintro e w7 ⟨rfl, hB7⟩; have hd7 := hd6.trans (hB7.mono hd6.size); rw [show decide (d.trail = d.trail) = true by simp])
            | (go_at_call 20; refine ((show ∀ w' z, Below wr.heap.size wr w' → Calls Try.prog 20 #[.pointer (some ⟨ga, 0, none⟩), .int .i64 z] w' (RetInts w'.heap.size (trailOf d z) w') from HT) w5 0 hd5).mono ?_; rw [show trailOf d 0 = d.trail from hT0]; rintro e w6 ⟨A6, c6, rfl, hown6, hB6⟩; have hd6 := hd5.trans (hB6.mono hd5.size))
            | (go_at_call 15; refine ((show ∀ w', Below wr.heap.size wr w' → Calls Try.prog 15 #[.pointer (some ⟨ga, 0, none⟩)] w' (RetBys w'.heap.size 5 d.img w') from HI) _ hd0).mono ?_; rintro e w5 ⟨A5, c5, rfl, hown5, hB5⟩; have hd5 := hd0.trans hB5; have s5 := (Bys.own hown5).string (P := Try.prog) Try.underlying39 Try.underlying5 Try.underlying9 c5; have s6 := (hbw.below hd5).string (P := Try.prog) Try.underlying39 Try.underlying5 Try.underlying9 512)))
          all_goals (go_wp2; go_ret; exact ⟨rfl, hBr.trans (hd9.mono hzr)⟩)
        · have hrs : Rdv wr (some ⟨gv, h2, none⟩) (j - h2) (iv (d.trail.drop h2)) := by rw [if_neg hch, Option.map_some, plain_add, Nat.zero_add] at hrs0; exact hrs0
          clear hrs0
          go_upto_region 18 with fail
          go_region_held_law (fun _ => True) (trivial) ((first
            | (go_at_call 17; refine ((show ∀ w', Below wr.heap.size wr w' → Calls Try.prog 17 #[.pointer (some ⟨ga, 0, none⟩)] w' (Says (.int .i64 (j : Nat)) w') from HW) _ hd9).mono ?_; rintro e w10 ⟨rfl, rfl⟩)
            | (go_at_call 19; refine (sameInts_walk w8 A8 _ (d.trail.length - h2) (j - h2) c8 _ (d.trail.drop h2) (d.trail.drop h2) (Rdv.of_own hown8) (hrs.below hd8) (by rw [show d.trail.length = j from htl]; omega) (by omega)).mono ?_; rintro e w9 ⟨rfl, hB9⟩; rw [show decide (d.trail.drop h2 = d.trail.drop h2) = true by simp]; have hd9 := hd8.trans (hB9.mono hd8.size))
            | (go_at_call 20; refine ((show ∀ w' z, Below wr.heap.size wr w' → Calls Try.prog 20 #[.pointer (some ⟨ga, 0, none⟩), .int .i64 z] w' (RetInts w'.heap.size (trailOf d z) w') from HT) w7 (h2 : Int) hd7).mono ?_; rw [show trailOf d (h2 : Int) = d.trail.drop h2 from hT2]; rintro e w8 ⟨A8, c8, rfl, hown8, hB8⟩; rw [List.length_drop] at hown8; have hd8 := hd7.trans (hB8.mono hd7.size))
            | (go_at_call 19; refine (sameInts_walk w6 A6 _ d.trail.length j c6 _ d.trail d.trail (Rdv.of_own hown6) (hrw.below hd6) (by have := (show d.trail.length = j from htl); omega) (by omega)).mono ?_; rintro e w7 ⟨rfl, hB7⟩; have hd7 := hd6.trans (hB7.mono hd6.size); rw [show decide (d.trail = d.trail) = true by simp])
            | (go_at_call 20; refine ((show ∀ w' z, Below wr.heap.size wr w' → Calls Try.prog 20 #[.pointer (some ⟨ga, 0, none⟩), .int .i64 z] w' (RetInts w'.heap.size (trailOf d z) w') from HT) w5 0 hd5).mono ?_; rw [show trailOf d 0 = d.trail from hT0]; rintro e w6 ⟨A6, c6, rfl, hown6, hB6⟩; have hd6 := hd5.trans (hB6.mono hd5.size))
            | (go_at_call 15; refine ((show ∀ w', Below wr.heap.size wr w' → Calls Try.prog 15 #[.pointer (some ⟨ga, 0, none⟩)] w' (RetBys w'.heap.size 5 d.img w') from HI) _ hd0).mono ?_; rintro e w5 ⟨A5, c5, rfl, hown5, hB5⟩; have hd5 := hd0.trans hB5; have s5 := (Bys.own hown5).string (P := Try.prog) Try.underlying39 Try.underlying5 Try.underlying9 c5; have s6 := (hbw.below hd5).string (P := Try.prog) Try.underlying39 Try.underlying5 Try.underlying9 512)))
          all_goals (go_wp2; go_ret; exact ⟨rfl, hBr.trans (hd9.mono hzr)⟩)
theorem tells_any (w : World) (A : Option Addr) (n c : Nat) (l : List OpV) (hl : OpsAt w A n l) :
    Calls Try.prog 5 #[.slice A n c] w (Tells w.heap.size (.bool true) w) := by
  by_cases hn : n ≤ 200
  · exact tells_walk w A n c l hl hn
  · exact tells_long w A n c (by omega)
end Go.Proofs.Ytenfdankgjdfpaa
