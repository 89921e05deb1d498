/- Texts of this session, put together: Ref06, HmacN. -/
import Derived.Test.YtomninikmcmmcaaDoorRs
import Derived.Test.YtomninikmcmmcaaDoorHm
import Derived.Test.YtomninikmcmmcaaDoorMark
import Derived.Laws.BitsLemmas
section
/- The reference's block of a key, and its texts put together: contracts. -/
namespace Go.Proofs.YtomninikmcmmcaaDoor.Sha
open Go Go.RowKit Go.Proofs.YtomninikmcmmcaaDoor.PRp Go.Proofs.YtomninikmcmmcaaDoor.Mark Go.Proofs.YtomninikmcmmcaaDoorW.PrintWords Go.Proofs.Sp Go.Proofs.YtomninikmcmmcaaDoor.Blk Go.Proofs.YtomninikmcmmcaaDoor.GivA
set_option linter.unusedVariables false
set_option linter.unusedSimpArgs false
theorem bytesRow_size (s : ByteArray) (cap : Nat) (h : s.size ≤ cap) : (bytesRow s cap).size = cap := by
  have e : s.data.size = s.size := rfl
  unfold bytesRow
  rw [Array.size_append, Array.size_map, Array.size_replicate, e]
  omega
/-- The row that []byte(s) lays. -/
theorem ownM_start (s : ByteArray) (w : World) (hs : s.size ≤ 140737488355328) :
    ownsRowM ((w.alloc (.cells (bytesRow s (grownCap w s.size 0 5)) 5 ((bytesRow s (grownCap w s.size 0 5)).size, (bytesRow s (grownCap w s.size 0 5)).size + 1))).drew) w.heap.size 5 1
      (.slice (some ⟨w.heap.size, 0, none⟩) s.size (grownCap w s.size 0 5)) s.data.toList.length (Lib.byteCells s.data.toList) := by
  have hge := grownCap_ge w s.size 0 5
  have hle := grownCap_le_maxLen w s.size 0 5 (by unfold maxLen; omega)
  have hsz := bytesRow_size s _ hge
  refine ⟨by rw [byteCells_length, Nat.mul_one], .inr ⟨w.heap.size, _, _, _, by rw [data_size], Nat.le_refl _, blk_new _ _, .inr (Nat.le_refl _), by rw [data_size]; exact hge, hle, by rw [hsz, Nat.mul_one], ?_⟩⟩
  rw [data_size, Nat.mul_one]
  unfold bytesRow Lib.byteCells
  rw [Array.toList_append, Array.toList_map, List.take_append_of_le_length (by rw [List.length_map, data_size]; exact Nat.le_refl _), List.take_of_length_le (by rw [List.length_map, data_size]; exact Nat.le_refl _)]
theorem ownM_conv {w : World} {B : Nat} {v : Value} {l : List UInt8} (hown : ownsRowM w B 5 1 v l.length (Lib.byteCells l)) : (convert 65 9 v).run Tryd.prog w = .ok (.string ⟨l.toArray⟩) w := by
  rcases hown.2 with ⟨rfl, h0⟩ | ⟨k, cap, cur, fz, rfl, _⟩
  · have e : l = [] := by
      have : l.length = 0 := by simpa using h0
      exact List.length_eq_zero_iff.1 this
    subst e
    exact Lib.run_convert_nil_bytes w 65 9 5 0 Tryd.underlying65 Tryd.underlying5 Tryd.underlying9
  · have hsz : (⟨l.toArray⟩ : ByteArray).size = l.length := by show l.toArray.size = _; simp
    rw [← hsz]
    refine Lib.run_convert_whole w 65 5 9 Tryd.underlying65 Tryd.underlying5 Tryd.underlying9 k 0 ⟨l.toArray⟩ (fun j hj => ?_) cap
    have hj' : j < l.length := by rw [← hsz]; exact hj
    have hc := hown.cells (g := k) rfl j (.int .u8 ((l[j]'hj').toNat : Int)) (by simp [Lib.byteCells, hj'])
    rw [Nat.zero_add, show ((⟨l.toArray⟩ : ByteArray)[j]'hj) = l[j]'hj' from rfl]
    by_cases h0 : j = 0
    · subst h0; simpa [Addr.add] using hc
    · simpa [Addr.add, h0] using hc
/-- The first bytes of a key's block. -/
def kPre (d : ByteArray) (j : Nat) : List UInt8 := d.data.toList ++ List.replicate j 0
theorem kPre_length (d : ByteArray) (j : Nat) : (kPre d j).length = d.size + j := by unfold kPre; rw [List.length_append, data_size, List.length_replicate]
theorem kPre_succ (d : ByteArray) (j : Nat) : kPre d j ++ [0] = kPre d (j + 1) := by unfold kPre; rw [List.append_assoc, ← List.replicate_succ']
theorem ownM_base {w : World} {B B' : Nat} {e : TypeId} {size : Nat} {v : Value} {n : Nat} {xs : List Value} (h : ownsRowM w B e size v n xs) (hB : B' ≤ B) : ownsRowM w B' e size v n xs := by
  refine ⟨h.1, ?_⟩
  rcases h.2 with hn | ⟨g, cap, cur, fz, hv, hb, rest⟩
  · exact .inl hn
  · exact .inr ⟨g, cap, cur, fz, hv, Nat.le_trans hB hb, rest⟩
theorem ownM_slice {w : World} {B : Nat} {e : TypeId} {size : Nat} {v : Value} {n : Nat} {xs : List Value} (h : ownsRowM w B e size v n xs) : ∃ ao cap, v = .slice ao n cap := by
  rcases h.2 with ⟨hv, h0⟩ | ⟨g, cap, cur, fz, hv, _⟩
  · exact ⟨none, 0, by rw [hv, h0]⟩
  · exact ⟨_, _, hv⟩
set_option maxHeartbeats 4000000 in
set_option maxRecDepth 100000 in
theorem refblock_calls (key : ByteArray) (w : World) (hs : key.size ≤ 549755813888) :
    Calls Tryd.prog 36 #[.string key] w fun e w' => e = .returned (.string (kBlock key)) ∧ Below w.heap.size w w' := by
  obtain ⟨i0, hi0, hz0, hz1, hz2⟩ := info_parts (P := Tryd.prog) (e := 5) (z := .int .u8 0) (size := 1) (bytes := 1) (by kernel_rfl)
  have HS := Aside0.mk (refsum_calls key w hs)
  have hkl := kOf_le key
  have HR := Aside0.mk (show kBlock key = ⟨(kPre (kOf key) (64 - (kOf key).size)).toArray⟩ by
    unfold kBlock kPre zeroB
    apply ext_list
    rw [append_list])
  have HK := Aside0.mk (show kOf key = if 64 < key.size then sha key else key from rfl)
  generalize kBlock key = res at *
  generalize kOf key = d at *
  by_cases h64 : 64 < key.size
  · rw [if_pos h64] at HK
    go_enter Tryd.func36, Tryd.ntmps36
    have hcv := fun w => run_bytes_of_string (P := Tryd.prog) w 9 65 5 d Tryd.underlying9 Tryd.underlying65 Tryd.underlying5
    go_wp2_with fail
    refine HS.out.mono ?_
    rintro e w1 ⟨rfl, hb1⟩
    rw [← HK.out]
    have G0 := Aside0.mk (ownM_base (ownM_start d w1 (by omega)) hb1.size)
    have B0 := Aside0.mk (hb1.trans ((((Below.refl _ w1).alloc (Nat.le_refl _) (.cells (bytesRow d (grownCap w1 d.size 0 5)) 5 ((bytesRow d (grownCap w1 d.size 0 5)).size, (bytesRow d (grownCap w1 d.size 0 5)).size + 1))).drew).mono hb1.size))
    clear hb1
    go_wp2_with fail
    clear hcv
    go_loopg [3] (64 - d.size) (fun k v wr => ∃ j : Nat, j + k = 64 - d.size ∧ ownsRowM wr w.heap.size 5 1 v (kPre d j).length (Lib.byteCells (kPre d j)) ∧ Below w.heap.size w wr)
    case atStart => exact ⟨0, by omega, by unfold kPre; rw [List.replicate_zero, List.append_nil]; exact G0.out, B0.out⟩
    case round =>
      obtain ⟨j, hj, hown, hB⟩ := hrel
      have hsz := hB.size
      have HB := Aside0.mk hB
      have hlen := kPre_length d j
      have hconv := ownM_conv hown
      obtain ⟨ao, cap, rfl⟩ := ownM_slice hown
      rw [hlen] at hown hconv ⊢
      have HCv := Aside0.mk hconv
      have HW := Aside0.mk hown
      clear hconv
      clear hB hlen
      by_cases hlt : j < 64 - d.size
      · have l1 : (d.size : Int) + (j : Int) < 64 := by omega
        go_wp2_with (at_builtin; refine wpList_append_ownM _ rfl _ _ 65 rfl w.heap.size 5 i0 (.int .u8 0) 1 1 Tryd.underlying65 hi0 hz0 hz1 hz2 rfl (by decide) _ _ _ rfl (hown.alloc _) ⟨wr.heap.size, 0, none⟩ 1 1 [.int .u8 0] rfl rfl ?c1 ?c2 ?c3 ?c4 ?c5 ?_)
        case c1 =>
          intro j u hj
          match j, hj with
          | 0, hj => simp at hj; subst hj; simp [Addr.add]
        case c2 => intro u hu; simp at hu; subst hu; rfl
        case c3 => unfold maxLen; omega
        case c4 => omega
        case c5 => simp; omega
        intro v' w1 hown' hgrow _
        obtain ⟨ao', cap', rfl⟩ := ownM_slice hown'
        have HO := Aside0.mk hown'
        have HG := Aside0.mk hgrow
        clear hown' hgrow hown
        go_wp2_with fail
        go_roundg (gk - 1)
        case measure => omega
        case rel =>
          refine ⟨j + 1, by omega, ?_, ?_⟩
          · have h1 := HO.out
            have e1 : Lib.byteCells (kPre d j) ++ [.int .u8 0] = Lib.byteCells (kPre d (j + 1)) := by rw [← kPre_succ]; exact byteCells_snoc (kPre d j) 0
            rw [e1] at h1
            rw [kPre_length]
            exact h1
          · exact (HB.out.alloc hsz _).grown HG.out (by simp; omega) (fun k hk => (HW.out.lt k hk).1)
      · have hje : j = 64 - d.size := by omega
        have hconv := HCv.out
        rw [show kPre d j = kPre d (64 - d.size) by rw [hje], ← HR.out] at hconv
        have l1 : (64 : Int) ≤ (d.size : Int) + (j : Int) := by omega
        clear hown hje
        go_wp2_with fail
        go_ret
        exact ⟨rfl, HB.out⟩
  · rw [if_neg h64] at HK
    obtain rfl := HK.out
    clear hs HS h64
    go_enter Tryd.func36, Tryd.ntmps36
    have hcv := fun w => run_bytes_of_string (P := Tryd.prog) w 9 65 5 d Tryd.underlying9 Tryd.underlying65 Tryd.underlying5
    have G0 := Aside0.mk (ownM_start d w (by omega))
    have B0 := Aside0.mk ((((Below.refl _ w).alloc (Nat.le_refl _) (.cells (bytesRow d (grownCap w d.size 0 5)) 5 ((bytesRow d (grownCap w d.size 0 5)).size, (bytesRow d (grownCap w d.size 0 5)).size + 1))).drew))
    have hdl : (d.size : Int) ≤ 64 := by omega
    go_wp2_with fail
    clear hcv
    go_loopg [3] (64 - d.size) (fun k v wr => ∃ j : Nat, j + k = 64 - d.size ∧ ownsRowM wr w.heap.size 5 1 v (kPre d j).length (Lib.byteCells (kPre d j)) ∧ Below w.heap.size w wr)
    case atStart => exact ⟨0, by omega, by unfold kPre; rw [List.replicate_zero, List.append_nil]; exact G0.out, B0.out⟩
    case round =>
      obtain ⟨j, hj, hown, hB⟩ := hrel
      have hsz := hB.size
      have HB := Aside0.mk hB
      have hlen := kPre_length d j
      have hconv := ownM_conv hown
      obtain ⟨ao, cap, rfl⟩ := ownM_slice hown
      rw [hlen] at hown hconv ⊢
      have HCv := Aside0.mk hconv
      have HW := Aside0.mk hown
      clear hconv
      clear hB hlen
      by_cases hlt : j < 64 - d.size
      · have l1 : (d.size : Int) + (j : Int) < 64 := by omega
        go_wp2_with (at_builtin; refine wpList_append_ownM _ rfl _ _ 65 rfl w.heap.size 5 i0 (.int .u8 0) 1 1 Tryd.underlying65 hi0 hz0 hz1 hz2 rfl (by decide) _ _ _ rfl (hown.alloc _) ⟨wr.heap.size, 0, none⟩ 1 1 [.int .u8 0] rfl rfl ?c1 ?c2 ?c3 ?c4 ?c5 ?_)
        case c1 =>
          intro j u hj
          match j, hj with
          | 0, hj => simp at hj; subst hj; simp [Addr.add]
        case c2 => intro u hu; simp at hu; subst hu; rfl
        case c3 => unfold maxLen; omega
        case c4 => omega
        case c5 => simp; omega
        intro v' w1 hown' hgrow _
        obtain ⟨ao', cap', rfl⟩ := ownM_slice hown'
        have HO := Aside0.mk hown'
        have HG := Aside0.mk hgrow
        clear hown' hgrow hown
        go_wp2_with fail
        go_roundg (gk - 1)
        case measure => omega
        case rel =>
          refine ⟨j + 1, by omega, ?_, ?_⟩
          · have h1 := HO.out
            have e1 : Lib.byteCells (kPre d j) ++ [.int .u8 0] = Lib.byteCells (kPre d (j + 1)) := by rw [← kPre_succ]; exact byteCells_snoc (kPre d j) 0
            rw [e1] at h1
            rw [kPre_length]
            exact h1
          · exact (HB.out.alloc hsz _).grown HG.out (by simp; omega) (fun k hk => (HW.out.lt k hk).1)
      · have hje : j = 64 - d.size := by omega
        have hconv := HCv.out
        rw [show kPre d j = kPre d (64 - d.size) by rw [hje], ← HR.out] at hconv
        have l1 : (64 : Int) ≤ (d.size : Int) + (j : Int) := by omega
        clear hown hje
        go_wp2_with fail
        go_ret
        exact ⟨rfl, HB.out⟩
end Go.Proofs.YtomninikmcmmcaaDoor.Sha
end
section
/- A mac's number, and the reference's way to put a text together with a byte. -/
namespace Go.Proofs.YtomninikmcmmcaaDoor.Sha
open Go Go.RowKit Go.Proofs.YtomninikmcmmcaaDoor.PRp Go.Proofs.YtomninikmcmmcaaDoor.Mark Go.Proofs.YtomninikmcmmcaaDoorW.PrintWords Go.Proofs.Sp Go.Proofs.YtomninikmcmmcaaDoor.Blk Go.Proofs.YtomninikmcmmcaaDoor.GivA
set_option linter.unusedVariables false
set_option linter.unusedSimpArgs false
theorem wrapU {n : Int} (h0 : 0 ≤ n) (h1 : n < 18446744073709551616) : IntKind.u64.wrap n = n := by
  simp [IntKind.wrap, IntKind.bits, IntKind.signed]; omega
theorem or_byte (x b : Nat) (hx : x < 72057594037927936) (hb : b < 256) : Go.bits .or .u64 (IntKind.u64.wrap ((x : Int) * 256)) (IntKind.u64.wrap (b : Int)) = ((x * 256 + b : Nat) : Int) := by
  rw [wrapU (by omega) (by omega), wrapU (by omega) (by omega), bits_join .u64 64 (by decide) (fun n h0 h1 => wrapU h0 (by omega)) 8 _ _ (by omega) (by omega) (by omega) (by omega) (by omega) (by omega)]
  omega
def num8 (l : List UInt8) : Nat := l.foldl (fun n c => n * 256 + c.toNat) 0
theorem num8_snoc (l : List UInt8) (c : UInt8) : num8 (l ++ [c]) = num8 l * 256 + c.toNat := by simp [num8]
theorem num8_lt : ∀ (l : List UInt8), num8 l < 256 ^ l.length := by
  intro l
  have h : ∀ (r : List UInt8), num8 r.reverse < 256 ^ r.length := by
    intro r
    induction r with
    | nil => simp [num8]
    | cons c r ih =>
      rw [List.reverse_cons, num8_snoc, List.length_cons, Nat.pow_succ]
      have := c.toNat_lt
      omega
  have := h l.reverse
  rwa [List.reverse_reverse, List.length_reverse] at this
theorem bt_byte (s : ByteArray) (i : Nat) : bt s (i : Int) = ((s.data.toList.getD i 0).toNat : Int) := Pure.bt_list s i
/-! the texts put together bit by bit -/
theorem bit_eq (x i : Nat) (hi : i < 8) (hx : x < 256) : (Int.tdiv (x : Int) ((2 ^ i : Nat) : Int)) % 256 % 2 = ((x / 2 ^ i % 2 : Nat) : Int) := by
  have h0 : x / 2 ^ i ≤ x := Nat.div_le_self _ _
  have e : Int.tdiv (x : Int) ((2 ^ i : Nat) : Int) = ((x / 2 ^ i : Nat) : Int) := by rw [Int.tdiv_eq_ediv_of_nonneg (by omega)]; exact (Int.natCast_ediv x (2 ^ i)).symm
  rw [e]
  generalize x / 2 ^ i = y at *
  omega
theorem xor_step (a c i : Nat) : (a ^^^ c) % 2 ^ (i + 1) = (a ^^^ c) % 2 ^ i + (if a / 2 ^ i % 2 = c / 2 ^ i % 2 then 0 else 2 ^ i) := by
  rw [Nat.mod_pow_succ]
  have h : (a ^^^ c) / 2 ^ i % 2 = if a / 2 ^ i % 2 = c / 2 ^ i % 2 then 0 else 1 := by
    rw [testBit_of, testBit_of, testBit_of, Nat.testBit_xor]
    cases a.testBit i <;> cases c.testBit i <;> simp
  rw [h]
  split <;> simp
theorem two_pow_lt8 {i : Nat} (h : i < 8) : 2 ^ i < 256 := by
  have := Nat.pow_lt_pow_right (show 1 < 2 by decide) h
  exact this
theorem wrap_succ (i : Nat) (h : i < 1099511627776) : wrap64 ((i : Int) + 1) = ((i + 1 : Nat) : Int) := by unfold wrap64; omega
theorem dbl (q : Nat) : ((q : Int) * 2) % 256 = ((q * 2 % 256 : Nat) : Int) := by omega
theorem add_mod (p q : Nat) (h : p + q < 256) : ((p : Int) + (q : Int)) % 256 = ((p + q : Nat) : Int) := by omega
theorem refwith_bits (s : ByteArray) (c : UInt8) (x5 : List Int) (j : Nat) (hj : j < s.size) (hs : s.size < 1099511627776) (hx5 : x5.length < 1099511627776) (d : Nat) : ∀ (k i : Nat), i + d = 8 → ∀ r, (∀ k', k ≤ k' + d + 1 → paymasterref06_with.l0 k' s (c.toNat : Int) (x5 ++ [(((s.data.toList.getD j 0).toNat ^^^ c.toNat : Nat) : Int)]) ((j + 1 : Nat) : Int) = some r) → d + 1 ≤ k →
    paymasterref06_with.l1 k s (c.toNat : Int) x5 (j : Int) ((((s.data.toList.getD j 0).toNat ^^^ c.toNat) % 2 ^ i : Nat) : Int) (((2 ^ i % 256 : Nat)) : Int) (i : Int) = some r := by
  have hb := (s.data.toList.getD j 0).toNat_lt
  have hc := c.toNat_lt
  have hxl : (s.data.toList.getD j 0).toNat ^^^ c.toNat < 2 ^ 8 := Nat.xor_lt_two_pow (by omega) (by omega)
  induction d with
  | zero =>
    intro k i hi r hr hk
    obtain ⟨k, rfl⟩ : ∃ m, k = m + 1 := ⟨k - 1, by omega⟩
    obtain rfl : i = 8 := by omega
    rw [paymasterref06_with.l1, if_neg (by decide), if_pos (by omega), Nat.mod_eq_of_lt hxl]
    have e1 : wrap64 ((j : Int) + 1) = ((j + 1 : Nat) : Int) := by unfold wrap64; omega
    rw [e1]
    exact hr k (by omega)
  | succ d ih =>
    intro k i hi r hr hk
    obtain ⟨k, rfl⟩ : ∃ m, k = m + 1 := ⟨k - 1, by omega⟩
    have q1 : (i : Int) < 8 := by omega
    have q2 : (0 : Int) ≤ j := by omega
    have q3 : (j : Int) < s.size := by omega
    have hi8 : i < 8 := by omega
    have hi9 : i + 1 + d = 8 := by omega
    have hk9 : d + 1 ≤ k := by omega
    have hi10 : i < 1099511627776 := by omega
    have hr9 : ∀ k', k ≤ k' + d + 1 → paymasterref06_with.l0 k' s (c.toNat : Int) (x5 ++ [(((s.data.toList.getD j 0).toNat ^^^ c.toNat : Nat) : Int)]) ((j + 1 : Nat) : Int) = some r := fun k' hk' => hr k' (by omega)
    have h2 := two_pow_lt8 hi8
    have hp : 0 < 2 ^ i := Nat.two_pow_pos i
    have e1 : wrap64 ((i : Int) + 1) = ((i + 1 : Nat) : Int) := wrap_succ i hi10
    have e2 : (((2 ^ i % 256 : Nat)) : Int) = ((2 ^ i : Nat) : Int) := by rw [Nat.mod_eq_of_lt h2]
    have e3 : (((2 ^ i : Nat) : Int) * 2) % 256 = ((2 ^ (i + 1) % 256 : Nat) : Int) := by rw [Nat.pow_succ]; exact dbl _
    have q4 : ¬ ((2 ^ i : Nat) : Int) = 0 := fun h => Nat.ne_of_gt hp (Int.ofNat.inj h)
    rw [e2, paymasterref06_with.l1, if_pos q1, if_pos q2, if_pos q3, if_neg q4, bt_byte, bit_eq _ i hi8 hb, bit_eq _ i hi8 hc, e1, e3]
    have hstep := xor_step (s.data.toList.getD j 0).toNat c.toNat i
    have IH := ih k (i + 1) hi9 r hr9 hk9
    clear hr hr9 ih
    generalize (s.data.toList.getD j 0).toNat = a at *
    have hm : (a ^^^ c.toNat) % 2 ^ i < 2 ^ i := Nat.mod_lt _ hp
    by_cases hq : a / 2 ^ i % 2 = c.toNat / 2 ^ i % 2
    · rw [if_pos (by rw [hq])]
      rw [if_pos hq, Nat.add_zero] at hstep
      rw [hstep] at IH
      exact IH
    · have hq' : ¬ ((a / 2 ^ i % 2 : Nat) : Int) = ((c.toNat / 2 ^ i % 2 : Nat) : Int) := fun h => hq (Int.ofNat.inj h)
      rw [if_neg hq']
      rw [if_neg hq] at hstep
      rw [hstep] at IH
      have h3 : (a ^^^ c.toNat) % 2 ^ i + 2 ^ i < 256 := by rw [← hstep]; exact Nat.lt_of_le_of_lt (Nat.mod_le _ _) hxl
      have e4 : ((((a ^^^ c.toNat) % 2 ^ i : Nat) : Int) + ((2 ^ i : Nat) : Int)) % 256 = (((a ^^^ c.toNat) % 2 ^ i + 2 ^ i : Nat) : Int) := add_mod _ _ h3
      rw [e4]
      exact IH
def xorI (s : ByteArray) (c : UInt8) (j : Nat) : List Int := (s.data.toList.take j).map fun b => ((b.toNat ^^^ c.toNat : Nat) : Int)
theorem refwith_go (s : ByteArray) (c : UInt8) (hs : s.size < 1099511627776) (d : Nat) : ∀ (k j : Nat), j + d = s.size → 12 * d + 12 ≤ k → paymasterref06_with.l0 k s (c.toNat : Int) (xorI s c j) (j : Int) = some (xorB s c) := by
  induction d with
  | zero =>
    intro k j hj hk
    obtain ⟨k, rfl⟩ : ∃ m, k = m + 1 := ⟨k - 1, by omega⟩
    rw [paymasterref06_with.l0, if_neg (by omega)]
    have e : xorI s c j = (s.data.toList.map (· ^^^ c)).map fun b => (b.toNat : Int) := by
      unfold xorI
      rw [List.take_of_length_le (by rw [data_size]; omega), List.map_map]
      apply List.map_congr_left
      intro b _
      simp
    rw [e, strOf_bytes]
    rfl
  | succ d ih =>
    intro k j hj hk
    obtain ⟨k, rfl⟩ : ∃ m, k = m + 1 := ⟨k - 1, by omega⟩
    have hl : (xorI s c j).length = j := by unfold xorI; rw [List.length_map, List.length_take, data_size]; omega
    rw [paymasterref06_with.l0, if_pos (by omega)]
    have h := refwith_bits s c (xorI s c j) j (by omega) hs (by omega) 8 k 0 rfl (xorB s c) (fun k' hk' => ?_) (by omega)
    · rw [Nat.pow_zero, Nat.mod_one] at h
      exact h
    have e : xorI s c j ++ [(((s.data.toList.getD j 0).toNat ^^^ c.toNat : Nat) : Int)] = xorI s c (j + 1) := by
      unfold xorI
      have h1 : j < s.data.toList.length := by rw [data_size]; omega
      rw [List.take_succ_eq_append_getElem h1, List.map_append, List.getD_eq_getElem?_getD, List.getElem?_eq_getElem h1]
      rfl
    rw [e]
    exact ih k' (j + 1) (by omega) (by omega)
theorem refwith_some (s : ByteArray) (c : UInt8) (hs : s.size < 1099511627776) (k : Nat) (hk : 12 * s.size + 12 ≤ k) : paymasterref06_with.f k s (c.toNat : Int) = some (xorB s c) :=
  refwith_go s c hs s.size k 0 (by omega) hk
end Go.Proofs.YtomninikmcmmcaaDoor.Sha
end
