/- Texts of this session, put together: Hmac, HmacC, GivH. -/
import Derived.Test.YtomninikmcmmcaaDoorSht
import Derived.Test.YtomninikmcmmcaaDoorShelf
import Derived.Laws.IdiomStrings
import Derived.Test.YtomninikmcmmcaaDoorRel
section
/- The keyed digest: contracts of package hmac. -/
namespace Go.Proofs.YtomninikmcmmcaaDoor.Sha
open Go Go.RowKit Go.Shelf Go.Proofs.YtomninikmcmmcaaDoor.Rng Go.Proofs.YtomninikmcmmcaaDoorW.PrintWords Go.Proofs.Sp Go.Proofs.YtomninikmcmmcaaDoor.Blk Go.Proofs.YtomninikmcmmcaaDoor.GivA
set_option linter.unusedVariables false
set_option linter.unusedSimpArgs false
/-- A key's block; a text with each byte put together with one; the mac. -/
def zeroB (n : Nat) : ByteArray := ⟨(List.replicate n 0).toArray⟩
def kOf (key : ByteArray) : ByteArray := if 64 < key.size then sha key else key
def kBlock (key : ByteArray) : ByteArray := kOf key ++ zeroB (64 - (kOf key).size)
def xorB (s : ByteArray) (c : UInt8) : ByteArray := ⟨(s.data.toList.map (· ^^^ c)).toArray⟩
theorem xorB_size (s : ByteArray) (c : UInt8) : (xorB s c).size = s.size := by
  show (s.data.toList.map (· ^^^ c)).toArray.size = s.data.size
  simp
theorem kOf_le (key : ByteArray) : (kOf key).size ≤ 64 := by
  unfold kOf
  split
  · rw [sha_size]; decide
  · omega
theorem zeroB_size (n : Nat) : (zeroB n).size = n := by show (List.replicate n 0).toArray.size = n; simp
theorem kBlock_size (key : ByteArray) : (kBlock key).size = 64 := by
  have := kOf_le key
  unfold kBlock
  rw [ByteArray.size_append, zeroB_size]
  omega
def inB (key : ByteArray) : ByteArray := xorB (kBlock key) 54
def outB (key : ByteArray) : ByteArray := xorB (kBlock key) 92
theorem inB_size (key : ByteArray) : (inB key).size = 64 := by unfold inB; rw [xorB_size, kBlock_size]
theorem outB_size (key : ByteArray) : (outB key).size = 64 := by unfold outB; rw [xorB_size, kBlock_size]
def mac (key m : ByteArray) : ByteArray := sha (outB key ++ sha (inB key ++ m))
theorem repeat_zero (n : Nat) : (⟨(Lib.repeatL (⟨#[0]⟩ : ByteArray).data.toList n).toArray⟩ : ByteArray) = zeroB n := by
  unfold zeroB
  congr 2
  induction n with
  | zero => rfl
  | succ n ih => rw [Lib.repeatL, ih, List.replicate_succ]; rfl
set_option maxHeartbeats 2000000 in
set_option maxRecDepth 100000 in
theorem kblock_calls (key : ByteArray) (w : World) (hT : Tab w) (hs : key.size ≤ 549755813888) :
    Calls Tryd.prog 35 #[.string key] w fun e w' => e = .returned (.string (kBlock key)) ∧ Below w.heap.size w w' := by
  have HS := Aside0.mk (shasum_calls key w hT hs)
  have HR := Aside0.mk (fun n w (h : n ≤ 64) => Tryd.strings_Repeat ⟨#[0]⟩ n w (by omega) (by show 1 * n ≤ _; omega))
  by_cases h64 : 64 < key.size
  · have HK := Aside0.mk (show kBlock key = sha key ++ zeroB 32 by unfold kBlock kOf; rw [if_pos h64, sha_size])
    have hsz := sha_size key
    generalize sha key = d at *
    have HZ := Aside0.mk (HR.out 32 · (by decide))
    rw [repeat_zero] at HZ
    have hz := zeroB_size 32
    generalize zeroB 32 = z at *
    clear hT
    go_enter Tryd.func35, Tryd.ntmps35
    go_wp2_with (go_at_call 49; refine HS.out.mono ?_; rintro e w1 ⟨rfl, hb1⟩)
    refine (HZ.out _).mono ?_
    rintro e w2 ⟨rfl, hb2⟩
    go_wp2_with fail
    go_ret
    exact ⟨by rw [HK.out]; rfl, hb1.trans (hb2.mono hb1.size)⟩
  · have HK := Aside0.mk (show kBlock key = key ++ zeroB (64 - key.size) by unfold kBlock kOf; rw [if_neg h64])
    have HZ := Aside0.mk (fun w => HR.out (64 - key.size) w (by omega))
    have e1 : (64 : Int) - (key.size : Int) = ((64 - key.size : Nat) : Int) := by omega
    rw [repeat_zero] at HZ
    have hz := zeroB_size (64 - key.size)
    generalize zeroB (64 - key.size) = z at *
    have E1 := Aside0.mk e1
    have hks : (key.size : Int) ≤ 64 := by omega
    rw [← e1] at HZ
    clear hT e1
    go_enter Tryd.func35, Tryd.ntmps35
    go_wp2_with fail
    refine (HZ.out _).mono ?_
    rintro e w2 ⟨rfl, hb2⟩
    go_wp2_with fail
    go_ret
    exact ⟨by rw [HK.out]; rfl, hb2⟩
theorem xor_u8 (a c : UInt8) : Go.bits .xor .u8 (a.toNat : Int) (c.toNat : Int) = ((a ^^^ c).toNat : Int) := by
  have e : ∀ x : UInt8, BitVec.ofInt 8 (x.toNat : Int) = x.toBitVec := fun x => by
    apply BitVec.eq_of_toNat_eq
    rw [BitVec.toNat_ofInt]
    have := x.toNat_lt
    show ((x.toNat : Int) % ((2 ^ 8 : Nat) : Int)).toNat = x.toNat
    omega
  have e1 : ∀ x : UInt8, BitVec.ofInt IntKind.u8.bits (x.toNat : Int) = x.toBitVec := e
  simp only [Go.bits, e1]
  show IntKind.u8.wrap (((a.toBitVec ^^^ c.toBitVec).toNat : Nat) : Int) = _
  have h : (a.toBitVec ^^^ c.toBitVec).toNat < 256 := (a.toBitVec ^^^ c.toBitVec).isLt
  simp only [IntKind.wrap, IntKind.bits, IntKind.signed]
  show (((a.toBitVec ^^^ c.toBitVec).toNat : Nat) : Int) % (2 ^ 8) = ((a.toBitVec ^^^ c.toBitVec).toNat : Int)
  omega
/-- The bytes of a text, of which the first t are put together with one. -/
def mixX (s : ByteArray) (c : UInt8) (t j : Nat) : UInt8 := if j < t then s.data.toList.getD j 0 ^^^ c else s.data.toList.getD j 0
theorem byte_get' (b : ByteArray) (t : Nat) (h : t < b.size) : b[t]'h = b.data.toList.getD t 0 := by
  have h' : t < b.data.size := h
  rw [List.getD_eq_getElem?_getD, Array.getElem?_toList, Array.getElem?_eq_getElem h']
  rfl
theorem xorB_get (s : ByteArray) (c : UInt8) (j : Nat) (hj : j < s.size) : (xorB s c).data.toList.getD j 0 = s.data.toList.getD j 0 ^^^ c := by
  have h1 : j < s.data.toList.length := by rw [data_size]; exact hj
  unfold xorB
  rw [List.getD_eq_getElem?_getD, List.getD_eq_getElem?_getD, List.toList_toArray, List.getElem?_map, List.getElem?_eq_getElem h1]
  rfl
structure XRow (b : Nat) (s : ByteArray) (c : UInt8) (t : Nat) (w : World) : Prop where
  cell : ∀ j, j < s.size → w.cell? ⟨b, j, none⟩ = some (.int .u8 ((mixX s c t j).toNat : Int))
  free : ∀ j, j < s.size → w.frozen? ⟨b, j, none⟩ = false
theorem XRow.set {b : Nat} {s : ByteArray} {c : UInt8} {t : Nat} {w : World} (h : XRow b s c t w) (ht : t < s.size) : XRow b s c (t + 1) (w.setCell ⟨b, t, none⟩ (.int .u8 ((mixX s c t t ^^^ c).toNat : Int))) where
  cell := fun j hj => by
    by_cases e : j = t
    · subst e
      rw [World.cell?_setCell_same _ _ _ (h.cell j hj)]
      unfold mixX
      rw [if_neg (Nat.lt_irrefl _), if_pos (Nat.lt_succ_self _)]
    · rw [World.cell?_setCell_other _ _ _ _ (fun h => e (by injection h with _ h2; exact h2.symm)), h.cell j hj]
      unfold mixX
      by_cases h2 : j < t
      · rw [if_pos h2, if_pos (by omega)]
      · rw [if_neg h2, if_neg (by omega)]
  free := fun j hj => by rw [World.frozen?_setCell]; exact h.free j hj
theorem XRow.start (s : ByteArray) (c : UInt8) (w : World) (n : Nat) : XRow w.heap.size s c 0 ((w.alloc (.cells (bytesRow s n) 5 ((bytesRow s n).size, (bytesRow s n).size + 1))).drew) where
  cell := fun j hj => by
    show (w.alloc _).cell? _ = _
    rw [cell_of_row _ w.heap.size j _ _ _ (blk_new _ _), bytesRow_at s _ j hj]
    show some (Value.int .u8 ((s[j]'hj).toNat : Int)) = _
    rw [byte_get' s j hj]
    rfl
  free := fun j hj => by
    show (w.alloc _).frozen? _ = false
    rw [World.frozen?_alloc_mark]
    have : s.size ≤ (bytesRow s n).size := by unfold bytesRow; rw [Array.size_append, Array.size_map]; exact Nat.le_add_right _ _
    have h2 : decide ((bytesRow s n).size ≤ j) = false := decide_eq_false (by omega)
    rw [h2]
    rfl
set_option maxHeartbeats 2000000 in
set_option maxRecDepth 100000 in
theorem with_calls (s : ByteArray) (hs : s.size ≤ 1099511627776) (c : UInt8) (w : World) :
    Calls Tryd.prog 76 #[.string s, .int .u8 (c.toNat : Int)] w fun e w' => e = .returned (.string (xorB s c)) ∧ Below w.heap.size w w' := by
  have hcv := fun w => run_bytes_of_string (P := Tryd.prog) w 9 65 5 s Tryd.underlying9 Tryd.underlying65 Tryd.underlying5
  have G0 := Aside0.mk (XRow.start s c w (grownCap w s.size 0 5))
  have B0 := Aside0.mk (show Below w.heap.size w ((w.alloc (.cells (bytesRow s (grownCap w s.size 0 5)) 5 ((bytesRow s (grownCap w s.size 0 5)).size, (bytesRow s (grownCap w s.size 0 5)).size + 1))).drew) from ((Below.refl _ _).alloc (Nat.le_refl _) _).drew)
  go_enter Tryd.func76, Tryd.ntmps76
  go_wp2_with fail
  clear hcv
  go_loopg [11] s.size (fun k v wr => ∃ t : Nat, t + k = s.size ∧ v = .int .i64 (t : Int) ∧ XRow w.heap.size s c t wr ∧ Below w.heap.size w wr)
  case atStart => exact ⟨0, by omega, rfl, G0.out, B0.out⟩
  case round =>
    obtain ⟨t, ht, rfl, hX, hB⟩ := hrel
    have HX := Aside0.mk hX
    have HB := Aside0.mk hB
    by_cases hlt : t < s.size
    · have hc := hX.cell t hlt
      have hf := hX.free t hlt
      have HSt := Aside0.mk (hX.set hlt)
      have HXo := Aside0.mk (xor_u8 (mixX s c t t) c)
      generalize mixX s c t t = y at *
      have l1 : (t : Int) < s.size := by omega
      clear hX hB
      go_wp2_with fail
      go_roundg (gk - 1)
      case measure => omega
      case rel =>
        refine ⟨t + 1, by omega, by go_num, ?_, HB.out.setCell (p := ⟨w.heap.size, t, none⟩) (Nat.le_refl _) _⟩
        rw [HXo.out]
        exact HSt.out
    · obtain rfl : t = s.size := by omega
      have hconv := Lib.run_convert_whole wr 65 5 9 Tryd.underlying65 Tryd.underlying5 Tryd.underlying9 w.heap.size 0 (xorB s c) (fun j hj => by
        have hj' : j < s.size := by rw [xorB_size] at hj; exact hj
        rw [Nat.zero_add, hX.cell j hj', byte_get' _ j hj, xorB_get s c j hj']
        unfold mixX
        rw [if_pos hj']) (grownCap w s.size 0 5)
      rw [xorB_size] at hconv
      clear hX hB
      go_wp2_with fail
      go_ret
      exact ⟨rfl, HB.out⟩
def vN (q p : Nat) (kb ib : ByteArray) : Nat → Value
  | 0 => .pointer (some ⟨q, 0, none⟩)
  | 1 => .pointer (some ⟨q, 0, none⟩)
  | 2 => .pointer (some ⟨q, 0, none⟩)
  | 3 => .pointer (some ⟨q, 0, none⟩)
  | 4 => .pointer (some ⟨p, 0, none⟩)
  | 5 => .string kb
  | 6 => .string ib
  | _ => undef
/-- A keyed digest in memory (block q; its running digest in block p). -/
def MacAt (q p : Nat) (key m : ByteArray) (w : World) : Prop := w.heap[q]? = some (.cells #[.pointer (some ⟨p, 0, none⟩), .string (outB key)] 27 (0, 0)) ∧ ShaAt p (inB key ++ m) w
theorem MacAt.ne {q p : Nat} {key m : ByteArray} {w : World} (h : MacAt q p key m w) : q ≠ p := fun e => by
  obtain ⟨h1, h2⟩ := h
  rw [e] at h1
  unfold ShaAt ShaC at h2
  rw [h1] at h2
  injection h2 with h2
  injection h2 with _ h3 _
  exact absurd h3 (by decide)
theorem MacAt.keep {q p : Nat} {key m : ByteArray} {w w' : World} (h : MacAt q p key m w) (hb : Below w.heap.size w w') : MacAt q p key m w' := ⟨blk_below h.1 hb, blk_below h.2 hb⟩
theorem mnone_calls (q p : Nat) (key m : ByteArray) (w : World) (h : MacAt q p key m w) : Calls Tryd.prog 59 #[.pointer (some ⟨q, 0, none⟩)] w fun e w' => e = .returned (.bool false) ∧ w = w' := by
  have c0 : w.cell? ⟨q, 0, none⟩ = some (.pointer (some ⟨p, 0, none⟩)) := blk_cell' h.1 0
  clear h
  go_enter Tryd.func59, Tryd.ntmps59
  go_wp2
  go_ret
  exact ⟨rfl, rfl⟩
set_option maxHeartbeats 2000000 in
set_option maxRecDepth 100000 in
theorem mwrite_calls (q p : Nat) (key m t : ByteArray) (w : World) (hT : Tab w) (h : MacAt q p key m w) (hs : m.size + t.size ≤ 4294967232) :
    Calls Tryd.prog 18 #[.pointer (some ⟨q, 0, none⟩), .string t] w fun e w' => e = .returned (.int .i64 0) ∧ MacAt q p key (m ++ t) w' ∧ Touch p w w' := by
  have c0 : w.cell? ⟨q, 0, none⟩ = some (.pointer (some ⟨p, 0, none⟩)) := blk_cell' h.1 0
  have hi := inB_size key
  have hsz : (inB key ++ m).size = 64 + m.size := by rw [ByteArray.size_append, hi]
  have HN := Aside0.mk (mnone_calls q p key m w h)
  have HL := Aside0.mk (len_calls p (inB key ++ m) w h.2)
  rw [hsz] at HL
  have HW := Aside0.mk (write_calls p (inB key ++ m) t w hT h.2 (by rw [hsz]; omega))
  have HM := Aside0.mk h
  have hb1 : (m.size : Int) + (t.size : Int) ≤ 4294967232 := by omega
  clear h hT hsz hi
  go_enter Tryd.func18, Tryd.ntmps18
  go_wp2_with (first | (go_at_call 59; refine HN.out.mono ?_; rintro e w1 ⟨rfl, rfl⟩) | (go_at_call 61; refine HL.out.mono ?_; rintro e w1 ⟨rfl, rfl⟩) | (go_at_call 62; refine HW.out.mono ?_; rintro e w1 ⟨rfl, h1, h2⟩))
  go_ret
  refine ⟨rfl, ⟨h2.blk HM.out.1 HM.out.ne, ?_⟩, h2⟩
  have e : inB key ++ m ++ t = inB key ++ (m ++ t) := by apply ext_list; simp only [append_list, List.append_assoc]
  rw [← e]
  exact h1
set_option maxHeartbeats 2000000 in
set_option maxRecDepth 100000 in
theorem msum_calls (q p : Nat) (key m : ByteArray) (w : World) (hT : Tab w) (h : MacAt q p key m w) (hs : m.size ≤ 4294967232) :
    Calls Tryd.prog 17 #[.pointer (some ⟨q, 0, none⟩)] w fun e w' => e = .returned (.tuple #[.string (mac key m), .int .i64 0]) ∧ Below w.heap.size w w' := by
  have c0 : w.cell? ⟨q, 0, none⟩ = some (.pointer (some ⟨p, 0, none⟩)) := blk_cell' h.1 0
  have hi := inB_size key
  have ho := outB_size key
  have hsz : (inB key ++ m).size = 64 + m.size := by rw [ByteArray.size_append, hi]
  have HN := Aside0.mk (mnone_calls q p key m w h)
  have HS := Aside0.mk (sum_calls p (inB key ++ m) w hT h.2 (by rw [hsz]; omega))
  have hdz := sha_size (inB key ++ m)
  have HMac := Aside0.mk (show mac key m = sha (outB key ++ sha (inB key ++ m)) from rfl)
  have HM := Aside0.mk h
  have HT := Aside0.mk hT
  have HSS := Aside0.mk (fun w hT => shasum_calls (outB key ++ sha (inB key ++ m)) w hT (by rw [ByteArray.size_append, ho, sha_size]; decide))
  generalize sha (inB key ++ m) = d at *
  generalize hob : outB key = ob at *
  have HOB := Aside0.mk hob
  clear h hT hsz hi hob
  go_enter Tryd.func17, Tryd.ntmps17
  go_wp2_with (go_at_call 59; refine HN.out.mono ?_; rintro e w1 ⟨rfl, rfl⟩)
  refine HS.out.mono ?_
  rintro e w1 ⟨rfl, hb1⟩
  have c1 : w1.cell? ⟨q, 1, none⟩ = some (.string ob) := by rw [← HOB.out]; exact blk_cell' (HM.out.keep hb1).1 1
  have HB1 := Aside0.mk hb1
  have HT1 := Aside0.mk (HT.out.keep hb1)
  clear hb1
  go_wp2_with fail
  refine (HSS.out _ HT1.out).mono ?_
  rintro e w2 ⟨rfl, hb2⟩
  go_wp2_with fail
  go_ret2
  exact ⟨by rw [HMac.out]; rfl, HB1.out.trans (hb2.mono HB1.out.size)⟩
set_option maxHeartbeats 2000000 in
set_option maxRecDepth 100000 in
theorem mnew_calls (key : ByteArray) (w : World) (hT : Tab w) (hs : key.size ≤ 549755813888) :
    Calls Tryd.prog 32 #[.string key] w fun e w' => ∃ q p, e = .returned (.pointer (some ⟨q, 0, none⟩)) ∧ w.heap.size ≤ q ∧ w.heap.size ≤ p ∧ MacAt q p key ByteArray.empty w' ∧ Below w.heap.size w w' := by
  have HK := Aside0.mk (kblock_calls key w hT hs)
  have hks := kBlock_size key
  have HW1 := Aside0.mk (fun w => with_calls (kBlock key) (by omega) 92 w)
  have HW2 := Aside0.mk (fun w => with_calls (kBlock key) (by omega) 54 w)
  have his := inB_size key
  have HI := Aside0.mk (show inB key = xorB (kBlock key) 54 from rfl)
  have HO := Aside0.mk (show outB key = xorB (kBlock key) 92 from rfl)
  have HN := Aside0.mk (fun w => new_calls w)
  have HT := Aside0.mk hT
  rw [← HI.out] at HW2
  rw [← HO.out] at HW1
  unfold MacAt
  generalize inB key = ib at *
  generalize outB key = ob at *
  generalize kBlock key = kb at *
  have HW1' := Aside0.mk (show ∀ w, Calls Tryd.prog 76 #[.string kb, .int .u8 92] w fun e w' => e = .returned (.string ob) ∧ Below w.heap.size w w' from fun w => HW1.out w)
  have HW2' := Aside0.mk (show ∀ w, Calls Tryd.prog 76 #[.string kb, .int .u8 54] w fun e w' => e = .returned (.string ib) ∧ Below w.heap.size w w' from fun w => HW2.out w)
  clear hT hks HI HO HW1 HW2
  have HW2 := HW2'
  go_enter Tryd.func32, Tryd.ntmps32
  go_wp2_with (go_at_call 35; refine HK.out.mono ?_; rintro e w1 ⟨rfl, hb1⟩)
  refine (HN.out _).mono ?_
  rintro e w2 ⟨p, rfl, hp, h2, hb2⟩
  have HB2 := Aside0.mk (hb1.trans (hb2.mono hb1.size))
  have HP := Aside0.mk (Nat.le_trans hb1.size hp)
  have H2 := Aside0.mk h2
  clear h2 hb1 hb2 hp
  go_wp2_with fail
  refine (HW1'.out _).mono ?_
  rintro e w3 ⟨rfl, hb3⟩
  have HB3 := Aside0.mk (HB2.out.trans (hb3.mono HB2.out.size))
  have H3 := Aside0.mk (show ShaAt p ByteArray.empty w3 from blk_below H2.out hb3)
  clear hb3
  go_wp2_with fail
  have h4 : Below w3.heap.size w3 (w3.alloc (.cells #[.pointer (some ⟨p, 0, none⟩), .string ob] 27)) := (Below.refl _ _).alloc (Nat.le_refl _) _
  have HB4 := Aside0.mk (HB3.out.trans (h4.mono HB3.out.size))
  have H4 := Aside0.mk (show ShaAt p ByteArray.empty (w3.alloc (.cells #[.pointer (some ⟨p, 0, none⟩), .string ob] 27)) from blk_below H3.out h4)
  have HQ := Aside0.mk (blk_new w3 (.cells #[.pointer (some ⟨p, 0, none⟩), .string ob] 27))
  have HQ3 := Aside0.mk HB3.out.size
  clear h4
  generalize w3.alloc (.cells #[.pointer (some ⟨p, 0, none⟩), .string ob] 27) = w4 at *
  generalize w3.heap.size = q at *
  refine Rel.region_rel [] (fun _ => .cells #[] 0 (0, 0)) (fun j v _ => v = vN q p kb ib j) 7 [] (by kernel_rfl) (by kernel_rfl) (by decide) (fun i hi => by cases hi) (fun _ _ _ _ h _ => h) (fun i hi => by cases hi) ?_ ?_
  · simp only [List.take_succ_cons, List.take_zero]
    refine ⟨?_, ?_, ?_, ?_, ?_, ?_, ?_, trivial⟩
    · refine Rel.Upon.of [] (by kernel_rfl) ?_
      intro vals z hb hN hd
      simp only [Rel.rp]
      go_wp2_with fail
      exact ⟨Below.refl _ _, rfl⟩
    · refine Rel.Upon.of [0] (by kernel_rfl) ?_
      intro vals z hb hN hd
      simp only [Rel.ra] at hd
      have d0 := hd
      replace d0 : vals 0 = .pointer (some ⟨q, 0, none⟩) := d0
      simp only [Rel.rp, d0]
      go_wp2_with fail
      exact ⟨Below.refl _ _, rfl⟩
    · refine Rel.Upon.of [1] (by kernel_rfl) ?_
      intro vals z hb hN hd
      simp only [Rel.ra] at hd
      have d1 := hd
      replace d1 : vals 1 = .pointer (some ⟨q, 0, none⟩) := d1
      simp only [Rel.rp, d1]
      go_wp2_with fail
      exact ⟨Below.refl _ _, rfl⟩
    · refine Rel.Upon.of [2] (by kernel_rfl) ?_
      intro vals z hb hN hd
      simp only [Rel.ra] at hd
      have d2 := hd
      replace d2 : vals 2 = .pointer (some ⟨q, 0, none⟩) := d2
      simp only [Rel.rp, d2]
      go_wp2_with fail
      exact ⟨Below.refl _ _, rfl⟩
    · refine Rel.Upon.of [3] (by kernel_rfl) ?_
      intro vals z hb hN hd
      simp only [Rel.ra] at hd
      have d3 := hd
      replace d3 : vals 3 = .pointer (some ⟨q, 0, none⟩) := d3
      have c0 : z.cell? ⟨q, 0, none⟩ = some (.pointer (some ⟨p, 0, none⟩)) := blk_cell' (blk_below HQ.out hb) 0
      simp only [Rel.rp, d3]
      go_wp2_with fail
      exact ⟨Below.refl _ _, rfl⟩
    · refine Rel.Upon.of [] (by kernel_rfl) ?_
      intro vals z hb hN hd
      simp only [Rel.rp]
      go_wp2_with fail
      exact ⟨Below.refl _ _, rfl⟩
    · refine Rel.Upon.of [5] (by kernel_rfl) ?_
      intro vals z hb hN hd
      simp only [Rel.ra] at hd
      have d5 := hd
      replace d5 : vals 5 = .string kb := d5
      simp only [Rel.rp, d5]
      go_wp2_with fail
      refine (HW2.out z).mono ?_
      rintro e z2 ⟨rfl, hb2⟩
      go_wp2_with fail
      first | exact ⟨hb2, rfl⟩ | rfl
  · intro vals w6 hb6 hN hrel _
    have d4 : vals 4 = .pointer (some ⟨p, 0, none⟩) := hrel 4 (by decide)
    have d6 : vals 6 = .string ib := hrel 6 (by decide)
    simp only [List.drop_succ_cons, List.drop_zero]
    rw [show List.range 7 = [0, 1, 2, 3, 4, 5, 6] from rfl]
    generalize e0 : vals 0 = u0
    generalize e1 : vals 1 = u1
    generalize e2 : vals 2 = u2
    generalize e3 : vals 3 = u3
    generalize e5 : vals 5 = u5
    simp only [Rel.rp, d4, d6, e0, e1, e2, e3, e5]
    have HB6 := Aside0.mk (HB4.out.trans (hb6.mono HB4.out.size))
    have HQ6 := Aside0.mk (blk_below HQ.out hb6)
    have HWr := Aside0.mk (write_calls p ByteArray.empty ib w6 (HT.out.keep HB6.out) (show ShaAt p ByteArray.empty w6 from blk_below H4.out hb6) (by show 0 + ib.size ≤ _; omega))
    clear hrel hb6 hN
    go_wp2_with fail
    refine HWr.out.mono ?_
    rintro e w7 ⟨rfl, h7, t7⟩
    go_wp2_with fail
    go_ret
    refine ⟨q, p, rfl, HQ3.out, HP.out, ⟨?_, ?_⟩, t7.below HB6.out HP.out HB6.out.size⟩
    · refine t7.blk HQ6.out ?_
      rintro rfl
      have a1 := HQ.out
      have a2 : w4.heap[q]? = _ := H4.out
      rw [a1] at a2
      injection a2 with a2
      injection a2 with _ h3 _
      exact absurd h3 (by decide)
    · have e1 : ByteArray.empty ++ ib = ib ++ ByteArray.empty := by apply ext_list; simp only [append_list]; simp
      rw [← e1]
      exact h7
end Go.Proofs.YtomninikmcmmcaaDoor.Sha
end
section
/- The keyed digest: Copy, the mac of a text, and the digits of bytes. -/
namespace Go.Proofs.YtomninikmcmmcaaDoor.Sha
open Go Go.RowKit Go.Shelf Go.Proofs.YtomninikmcmmcaaDoor.Rng Go.Proofs.YtomninikmcmmcaaDoorW.PrintWords Go.Proofs.Sp Go.Proofs.YtomninikmcmmcaaDoor.Blk Go.Proofs.YtomninikmcmmcaaDoor.GivA
set_option linter.unusedVariables false
set_option linter.unusedSimpArgs false
set_option maxHeartbeats 2000000 in
set_option maxRecDepth 100000 in
theorem mac_calls (key m : ByteArray) (w : World) (hT : Tab w) (hk : key.size ≤ 549755813888) (hs : m.size ≤ 4294967232) :
    Calls Tryd.prog 34 #[.string key, .string m] w fun e w' => e = .returned (.string (mac key m)) ∧ Below w.heap.size w w' := by
  have HN := Aside0.mk (mnew_calls key w hT hk)
  have HT := Aside0.mk hT
  clear hT
  go_enter Tryd.func34, Tryd.ntmps34
  go_wp2_with (go_at_call 32; refine HN.out.mono ?_; rintro e w1 ⟨q, p, rfl, hq, hp, h1, hb1⟩)
  have HP := Aside0.mk hp
  have HB1 := Aside0.mk hb1
  have HW := Aside0.mk (mwrite_calls q p key ByteArray.empty m w1 (HT.out.keep hb1) h1 (by show 0 + m.size ≤ _; omega))
  clear h1 hb1 hp hq
  refine HW.out.mono ?_
  rintro e w2 ⟨rfl, h2, t2⟩
  rw [show ByteArray.empty ++ m = m by apply ext_list; rw [append_list]; rfl] at h2
  have HB2 := Aside0.mk (t2.below HB1.out HP.out HB1.out.size)
  have HS := Aside0.mk (msum_calls q p key m w2 (HT.out.keep HB2.out) h2 hs)
  clear h2 t2
  go_wp2_with fail
  refine HS.out.mono ?_
  rintro e w3 ⟨rfl, hb3⟩
  go_wp2_with fail
  go_ret
  exact ⟨rfl, HB2.out.trans (hb3.mono HB2.out.size)⟩
end Go.Proofs.YtomninikmcmmcaaDoor.Sha
end
section
/- Digests and macs as given functions, in the print's own form. -/
namespace Go.Proofs.YtomninikmcmmcaaDoor.GivH
open Go Go.RowKit Go.Proofs.YtomninikmcmmcaaDoor.Sha Go.Proofs.YtomninikmcmmcaaDoor.GivA
def big (s : ByteArray) : Bool := decide (s.size ≤ 1073741824)
def sha_Sum.f (a0 : ByteArray) : Option ByteArray := if big a0 = true then some (sha a0) else none
theorem sha_Sum.calls (a0 : ByteArray) (r : ByteArray) (w : World) (hT : Tab w) (h : sha_Sum.f a0 = some r) :
    Calls Tryd.prog 49 #[.string a0] w fun e w' => e = .returned (.string r) ∧ Below w.heap.size w w' := by
  unfold sha_Sum.f big at h
  split at h
  · rename_i hc
    obtain rfl := Option.some.inj h
    exact shasum_calls a0 w hT (by have := of_decide_eq_true hc; omega)
  · cases h
def hmac_Sum.f (a0 a1 : ByteArray) : Option ByteArray := if big a0 = true then (if big a1 = true then some (mac a0 a1) else none) else none
theorem hmac_Sum.calls (a0 a1 : ByteArray) (r : ByteArray) (w : World) (hT : Tab w) (h : hmac_Sum.f a0 a1 = some r) :
    Calls Tryd.prog 34 #[.string a0, .string a1] w fun e w' => e = .returned (.string r) ∧ Below w.heap.size w w' := by
  unfold hmac_Sum.f big at h
  split at h
  · rename_i hc
    split at h
    · rename_i hd
      obtain rfl := Option.some.inj h
      exact mac_calls a0 a1 w hT (by have := of_decide_eq_true hc; omega) (by have := of_decide_eq_true hd; omega)
    · cases h
  · cases h
def hmac_Block.f (a0 : ByteArray) : Option ByteArray := if big a0 = true then some (kBlock a0) else none
theorem hmac_Block.calls (a0 : ByteArray) (r : ByteArray) (w : World) (hT : Tab w) (h : hmac_Block.f a0 = some r) :
    Calls Tryd.prog 35 #[.string a0] w fun e w' => e = .returned (.string r) ∧ Below w.heap.size w w' := by
  unfold hmac_Block.f big at h
  split at h
  · rename_i hc
    obtain rfl := Option.some.inj h
    exact kblock_calls a0 w hT (by have := of_decide_eq_true hc; omega)
  · cases h
end Go.Proofs.YtomninikmcmmcaaDoor.GivH
end
