/-
  The plain law of the checksum: the division bit by bit (the document's answer) is the walk by four bits over the table (the program's way). No program in sight.
-/
namespace Go.Proofs.YtalkglmneicpoaaGreatDoor
set_option linter.unusedVariables false
set_option linter.unusedSimpArgs false

def tab : List Nat := [0, 498536548, 997073096, 651767980, 1994146192, 1802195444, 1303535960, 1342533948, 3988292384, 4027552580, 3604390888, 3412177804, 2607071920, 2262029012, 2685067896, 3183342108]
def tabAt (i : Nat) : Nat := tab.getD i 0
def nib (v : Nat) : Nat := v / 16 ^^^ tabAt (v &&& 15)
def stepc (v : Nat) (x : UInt8) : Nat := nib (nib (v ^^^ x.toNat))
def updc (v : Nat) (bs : List UInt8) : Nat := bs.foldl stepc v
def crcMore (s : Nat) (bs : List UInt8) : Nat := 4294967295 - updc (4294967295 - s) bs
def turnB (v : BitVec 32) : Nat → BitVec 32
  | 0 => 0#32
  | i + 1 => (turnB v i <<< 1) ||| ((v >>> i) &&& 1#32)
def refBit (l : BitVec 32) (b : Bool) : BitVec 32 := if l.msb = b then l <<< 1 else (l <<< 1) ^^^ 79764919#32
def refN (l : BitVec 32) (x : UInt8) : Nat → BitVec 32
  | 0 => l
  | k + 1 => refBit (refN l x k) (x.toNat.testBit k)
def refUpd (l : BitVec 32) (bs : List UInt8) : BitVec 32 := bs.foldl (fun l x => refN l x 8) l
def refMore (s : BitVec 32) (bs : List UInt8) : BitVec 32 := turnB (refUpd (turnB (s ^^^ 4294967295#32) 32) bs) 32 ^^^ 4294967295#32

/-- one bit, the lowest first -/
def sh (v : BitVec 32) : BitVec 32 := if v.getLsbD 0 then (v >>> 1) ^^^ 3988292384#32 else v >>> 1
theorem sh_xor (a b : BitVec 32) : sh (a ^^^ b) = sh a ^^^ sh b := by
  unfold sh
  rw [BitVec.getLsbD_xor, BitVec.ushiftRight_xor_distrib]
  cases ha : a.getLsbD 0 <;> cases hb : b.getLsbD 0 <;> simp
  · ac_rfl
  · ac_rfl
  · rw [show a >>> 1 ^^^ 3988292384#32 ^^^ (b >>> 1 ^^^ 3988292384#32) = (a >>> 1 ^^^ b >>> 1) ^^^ (3988292384#32 ^^^ 3988292384#32) by ac_rfl]; simp
def shN : Nat → BitVec 32 → BitVec 32
  | 0, v => v
  | n + 1, v => shN n (sh v)
theorem shN_xor (n : Nat) (a b : BitVec 32) : shN n (a ^^^ b) = shN n a ^^^ shN n b := by
  induction n generalizing a b with
  | zero => rfl
  | succ n ih => simp only [shN, sh_xor, ih]
theorem turn_get (v : BitVec 32) (i k : Nat) (hi : i ≤ 32) : (turnB v i).getLsbD k = (decide (k < i) && v.getLsbD (i - 1 - k)) := by
  induction i generalizing k with
  | zero => simp [turnB]
  | succ i ih =>
    simp only [turnB, BitVec.getLsbD_or, BitVec.getLsbD_shiftLeft, BitVec.getLsbD_and, BitVec.getLsbD_ushiftRight]
    cases k with
    | zero => simp
    | succ k =>
      have h1 : (1#32).getLsbD (k + 1) = false := by simp
      rw [ih _ (by omega), h1]
      have h2 : i - 1 - (k + 1 - 1) = i + 1 - 1 - (k + 1) := by omega
      rw [h2]
      by_cases h : k < i
      · have : k + 1 < 32 := by omega
        simp [h, this]
      · simp [h]
theorem turnB_eq (v : BitVec 32) : turnB v 32 = v.reverse := by
  apply BitVec.eq_of_getLsbD_eq
  intro k hk
  rw [turn_get v 32 k (by omega), BitVec.getLsbD_reverse, BitVec.getMsbD]
theorem rev_rev (v : BitVec 32) : v.reverse.reverse = v := BitVec.reverse_reverse_eq
theorem rev_get (v : BitVec 32) (k : Nat) : v.reverse.getLsbD k = (decide (k < 32) && v.getLsbD (31 - k)) := by
  rw [BitVec.getLsbD_reverse, BitVec.getMsbD]
theorem rev_xor (a b : BitVec 32) : (a ^^^ b).reverse = a.reverse ^^^ b.reverse := by
  apply BitVec.eq_of_getLsbD_eq
  intro k hk
  simp only [BitVec.getLsbD_xor, rev_get, hk, decide_true, Bool.true_and]
theorem rev_shl (a : BitVec 32) : (a <<< 1).reverse = a.reverse >>> 1 := by
  apply BitVec.eq_of_getLsbD_eq
  intro k hk
  simp only [rev_get, BitVec.getLsbD_shiftLeft, BitVec.getLsbD_ushiftRight, hk, decide_true, Bool.true_and]
  by_cases h : k = 31
  · subst h; simp
  · have h1 : 1 + k < 32 := by omega
    have h2 : 31 - k < 32 := by omega
    have h3 : ¬ 31 - k < 1 := by omega
    have h4 : 31 - k - 1 = 31 - (1 + k) := by omega
    simp [h1, h2, h3, h4]
def bit (b : Bool) : BitVec 32 := if b then 1#32 else 0#32
theorem rev_bit (l : BitVec 32) (b : Bool) : (refBit l b).reverse = sh (l.reverse ^^^ bit b) := by
  have hm : l.msb = l.reverse.getLsbD 0 := by
    rw [rev_get, BitVec.msb_eq_getLsbD_last]; simp
  have hs : (l.reverse ^^^ bit b) >>> 1 = l.reverse >>> 1 := by
    rw [BitVec.ushiftRight_xor_distrib]; cases b <;> simp [bit]
  have hg : (79764919#32).reverse = 3988292384#32 := by decide +kernel
  unfold refBit sh
  rw [hs, hm, BitVec.getLsbD_xor]
  have hb : (bit b).getLsbD 0 = b := by cases b <;> simp [bit]
  rw [hb]
  cases h1 : l.reverse.getLsbD 0 <;> cases b <;> simp [rev_shl, rev_xor, hg]
def goN (v : BitVec 32) (x : Nat) : Nat → BitVec 32
  | 0 => v
  | k + 1 => sh (goN v x k ^^^ bit (x.testBit k))
theorem rev_refN (l : BitVec 32) (x : UInt8) (k : Nat) : (refN l x k).reverse = goN l.reverse x.toNat k := by
  induction k with
  | zero => rfl
  | succ k ih => simp only [refN, goN, rev_bit, ih]
theorem goN_succ (v : BitVec 32) (x n : Nat) : goN v x (n + 1) = goN (sh (v ^^^ bit (x.testBit 0))) (x / 2) n := by
  induction n with
  | zero => rfl
  | succ n ih =>
    rw [goN, ih]
    simp only [goN, Nat.testBit_succ]
theorem sh_shl (y : BitVec 32) (h : y.toNat < 2147483648) : sh (y <<< 1) = y := by
  have h1 : (y <<< 1).toNat = y.toNat * 2 := by rw [BitVec.toNat_shiftLeft, Nat.shiftLeft_eq]; omega
  have h0 : (y <<< 1).getLsbD 0 = false := by simp
  unfold sh
  rw [h0]
  apply BitVec.eq_of_toNat_eq
  simp only [Bool.false_eq_true, if_false]
  rw [BitVec.toNat_ushiftRight, h1, Nat.shiftRight_eq_div_pow]
  omega
theorem split_bit (x : Nat) (hx : x < 4294967296) : BitVec.ofNat 32 x = bit (x.testBit 0) ^^^ (BitVec.ofNat 32 (x / 2) <<< 1) := by
  apply BitVec.eq_of_getLsbD_eq
  intro k hk
  cases k with
  | zero =>
    rw [BitVec.getLsbD_xor, BitVec.getLsbD_ofNat, BitVec.getLsbD_shiftLeft]
    cases h : x.testBit 0 <;> simp [bit]
  | succ k =>
    have h1 : (bit (x.testBit 0)).getLsbD (k + 1) = false := by cases x.testBit 0 <;> simp [bit]
    rw [BitVec.getLsbD_xor, h1, BitVec.getLsbD_shiftLeft, BitVec.getLsbD_ofNat, BitVec.getLsbD_ofNat]
    have h2 : k < 32 := by omega
    simp [hk, h2, Nat.testBit_succ]
theorem goN_eq (n : Nat) : ∀ (v : BitVec 32) (x : Nat), x < 2 ^ n → n ≤ 8 → goN v x n = shN n (v ^^^ BitVec.ofNat 32 x) := by
  induction n with
  | zero =>
    intro v x hx _
    obtain rfl : x = 0 := by simp at hx; omega
    simp [goN, shN]
  | succ n ih =>
    intro v x hx hn
    have hp : 2 ^ (n + 1) ≤ 2 ^ 8 := Nat.pow_le_pow_right (by omega) hn
    have hx2 : x / 2 < 2 ^ n := by rw [Nat.pow_succ] at hx; omega
    rw [goN_succ, ih _ _ hx2 (by omega), shN, split_bit x (by omega), ← BitVec.xor_assoc, sh_xor _ (BitVec.ofNat 32 (x / 2) <<< 1), sh_shl _ (by rw [BitVec.toNat_ofNat]; omega)]
theorem shN_shl (n : Nat) : ∀ y : BitVec 32, y.toNat * 2 ^ n < 4294967296 → shN n (y <<< n) = y := by
  induction n with
  | zero => intro y _; simp [shN]
  | succ n ih =>
    intro y hy
    have e : y <<< (n + 1) = (y <<< n) <<< 1 := by rw [BitVec.shiftLeft_add]
    have hy' : y.toNat * 2 ^ n * 2 < 4294967296 := by rw [Nat.pow_succ, ← Nat.mul_assoc] at hy; exact hy
    rw [shN, e, sh_shl _ (by rw [BitVec.toNat_shiftLeft, Nat.shiftLeft_eq]; omega), ih _ (by omega)]
theorem shN4_low : ∀ i, i < 16 → (shN 4 (BitVec.ofNat 32 i)).toNat = tabAt i := by decide
theorem nib_eq (v : BitVec 32) : (shN 4 v).toNat = nib v.toNat := by
  have hv : v = ((v >>> 4) <<< 4) ^^^ (v &&& 15#32) := by
    apply BitVec.eq_of_getLsbD_eq
    intro k hk
    have h15 : (15#32).getLsbD k = decide (k < 4) := by
      have : ∀ k, k < 32 → (15#32).getLsbD k = decide (k < 4) := by decide
      exact this k hk
    rw [BitVec.getLsbD_xor, BitVec.getLsbD_shiftLeft, BitVec.getLsbD_ushiftRight, BitVec.getLsbD_and, h15]
    by_cases h : k < 4
    · simp [h]
    · have : 4 + (k - 4) = k := by omega
      simp [h, hk, this]
  have h1 : shN 4 v = (v >>> 4) ^^^ shN 4 (v &&& 15#32) := by
    rw [show shN 4 v = shN 4 (((v >>> 4) <<< 4) ^^^ (v &&& 15#32)) from congrArg (shN 4) hv, shN_xor, shN_shl]
    rw [BitVec.toNat_ushiftRight, Nat.shiftRight_eq_div_pow]
    have := v.isLt
    omega
  have hlt : v.toNat &&& 15 < 16 := Nat.and_lt_two_pow (n := 4) _ (by omega)
  have h2 : v &&& 15#32 = BitVec.ofNat 32 (v.toNat &&& 15) := by
    apply BitVec.eq_of_toNat_eq
    rw [BitVec.toNat_and, BitVec.toNat_ofNat]
    exact (Nat.mod_eq_of_lt (Nat.lt_trans hlt (by decide))).symm
  rw [h1, BitVec.toNat_xor, h2, shN4_low _ hlt, BitVec.toNat_ushiftRight, Nat.shiftRight_eq_div_pow]
  rfl
theorem shN_add (m n : Nat) (v : BitVec 32) : shN (m + n) v = shN n (shN m v) := by
  induction m generalizing v with
  | zero => simp [shN]
  | succ m ih => rw [Nat.succ_add]; simp only [shN, ih]
theorem byte_eq (l : BitVec 32) (x : UInt8) : (refN l x 8).reverse.toNat = stepc l.reverse.toNat x := by
  have hx := x.toNat_lt
  rw [rev_refN, goN_eq 8 _ _ (by omega) (by omega), shN_add 4 4, nib_eq, nib_eq, BitVec.toNat_xor, BitVec.toNat_ofNat, Nat.mod_eq_of_lt (by omega)]
  rfl
theorem upd_eq (bs : List UInt8) : ∀ l : BitVec 32, (refUpd l bs).reverse.toNat = updc l.reverse.toNat bs := by
  induction bs with
  | nil => intro l; rfl
  | cons x bs ih =>
    intro l
    have h1 : refUpd l (x :: bs) = refUpd (refN l x 8) bs := rfl
    have h2 : updc l.reverse.toNat (x :: bs) = updc (stepc l.reverse.toNat x) bs := rfl
    rw [h1, h2, ih, byte_eq]
theorem not_eq (a : BitVec 32) : (a ^^^ 4294967295#32).toNat = 4294967295 - a.toNat := by
  have h1 := BitVec.toNat_not (x := a)
  have h2 : a ^^^ 4294967295#32 = ~~~a := by
    have : (4294967295#32 : BitVec 32) = BitVec.allOnes 32 := by decide
    rw [this, BitVec.xor_allOnes]
  rw [h2, h1]
/-- THE PLAIN LAW: the division bit by bit is the table's walk by four bits. -/
theorem refMore_eq (s : BitVec 32) (bs : List UInt8) : (refMore s bs).toNat = crcMore s.toNat bs := by
  unfold refMore crcMore
  rw [turnB_eq, turnB_eq, not_eq, upd_eq, rev_rev, not_eq]

theorem tabAt_lt (i : Nat) : tabAt i < 4294967296 := by
  unfold tabAt
  by_cases h : i < 16
  · rcases (by omega : i = 0 ∨ i = 1 ∨ i = 2 ∨ i = 3 ∨ i = 4 ∨ i = 5 ∨ i = 6 ∨ i = 7 ∨ i = 8 ∨ i = 9 ∨ i = 10 ∨ i = 11 ∨ i = 12 ∨ i = 13 ∨ i = 14 ∨ i = 15) with h | h | h | h | h | h | h | h | h | h | h | h | h | h | h | h <;> subst h <;> decide
  · have : tab.length ≤ i := by show 16 ≤ i; omega
    rw [List.getD_eq_getElem?_getD, List.getElem?_eq_none this]; decide
theorem nib_lt (v : Nat) (h : v < 4294967296) : nib v < 4294967296 :=
  Nat.xor_lt_two_pow (n := 32) (by omega) (by have := tabAt_lt (v &&& 15); omega)
theorem stepc_lt (v : Nat) (x : UInt8) (h : v < 4294967296) : stepc v x < 4294967296 :=
  nib_lt _ (nib_lt _ (Nat.xor_lt_two_pow (n := 32) (by omega) (by have := x.toNat_lt; omega)))
theorem updc_lt (bs : List UInt8) : ∀ v : Nat, v < 4294967296 → updc v bs < 4294967296 := by
  induction bs with
  | nil => intro v h; exact h
  | cons x bs ih => intro v h; exact ih _ (stepc_lt v x h)
theorem crcMore_lt (s : Nat) (bs : List UInt8) : crcMore s bs < 4294967296 := by unfold crcMore; omega
/-- Pieces: a sum goes on. -/
theorem crcMore_append (s : Nat) (a b : List UInt8) : crcMore (crcMore s a) b = crcMore s (a ++ b) := by
  have h := updc_lt a (4294967295 - s) (by omega)
  unfold crcMore
  have e : 4294967295 - (4294967295 - updc (4294967295 - s) a) = updc (4294967295 - s) a := by omega
  rw [e]
  unfold updc
  rw [List.foldl_append]
theorem crcMore_nil (s : Nat) (h : s < 4294967296) : crcMore s [] = s := by unfold crcMore updc; simp; omega
/-- The table's entries turn with their indexes. -/
theorem tab_xor : ∀ i, i < 16 → ∀ j, j < 16 → tabAt (i ^^^ j) = tabAt i ^^^ tabAt j := by decide +kernel
theorem nib_xor (a b : Nat) : nib (a ^^^ b) = nib a ^^^ nib b := by
  have ha : a &&& 15 < 16 := Nat.and_lt_two_pow (n := 4) _ (by omega)
  have hb : b &&& 15 < 16 := Nat.and_lt_two_pow (n := 4) _ (by omega)
  have h1 : (a ^^^ b) / 16 = a / 16 ^^^ b / 16 := by
    have := Nat.shiftRight_xor_distrib (a := a) (b := b) (i := 4)
    simpa [Nat.shiftRight_eq_div_pow] using this
  unfold nib
  rw [h1, Nat.and_xor_distrib_right, tab_xor _ ha _ hb]
  ac_rfl
theorem stepc_xor (v u : Nat) (x y : UInt8) : stepc (v ^^^ u) (x ^^^ y) = stepc v x ^^^ stepc u y := by
  unfold stepc
  rw [UInt8.toNat_xor, show v ^^^ u ^^^ (x.toNat ^^^ y.toNat) = (v ^^^ x.toNat) ^^^ (u ^^^ y.toNat) by ac_rfl, nib_xor, nib_xor]
/-- Two lists of bytes, one turned by the other. -/
def xorB (a b : List UInt8) : List UInt8 := List.zipWith (· ^^^ ·) a b
theorem updc_xor (a : List UInt8) : ∀ (b : List UInt8) (v u : Nat), a.length = b.length → updc (v ^^^ u) (xorB a b) = updc v a ^^^ updc u b := by
  induction a with
  | nil => intro b v u h; cases b with
    | nil => rfl
    | cons y b => simp at h
  | cons x a ih =>
    intro b v u h
    cases b with
    | nil => simp at h
    | cons y b =>
      have h1 : updc (v ^^^ u) (xorB (x :: a) (y :: b)) = updc (stepc (v ^^^ u) (x ^^^ y)) (xorB a b) := rfl
      rw [h1, stepc_xor, ih b _ _ (by simpa using h)]
      rfl
theorem xorB_length (a b : List UInt8) (h : a.length = b.length) : (xorB a b).length = a.length := by simp [xorB, h]
theorem not_xor (a : Nat) (h : a < 4294967296) : 4294967295 - a = 4294967295 ^^^ a := by
  have h1 := BitVec.toNat_not (x := BitVec.ofNat 32 a)
  have h2 : ~~~(BitVec.ofNat 32 a) = BitVec.allOnes 32 ^^^ BitVec.ofNat 32 a := by rw [BitVec.allOnes_xor]
  rw [h2, BitVec.toNat_xor, BitVec.toNat_allOnes, BitVec.toNat_ofNat, Nat.mod_eq_of_lt (by omega)] at h1
  exact h1.symm
theorem crc_as_xor (a : List UInt8) : crcMore 0 a = 4294967295 ^^^ updc 4294967295 a := by
  unfold crcMore
  rw [not_xor _ (updc_lt _ _ (by omega))]
/-- What turning bits turns of a sum hangs on which bits are turned alone. -/
theorem crc_turns (a b c : List UInt8) (h1 : a.length = c.length) (h2 : b.length = c.length) :
    crcMore 0 a ^^^ crcMore 0 (xorB a c) = crcMore 0 b ^^^ crcMore 0 (xorB b c) := by
  have e1 := updc_xor a c 4294967295 0 h1
  have e2 := updc_xor b c 4294967295 0 h2
  simp only [Nat.xor_zero] at e1 e2
  simp only [crc_as_xor, e1, e2]
  have : ∀ m x y : Nat, m ^^^ x ^^^ (m ^^^ (x ^^^ y)) = y := fun m x y => by
    rw [show m ^^^ x ^^^ (m ^^^ (x ^^^ y)) = (m ^^^ m) ^^^ ((x ^^^ x) ^^^ y) by ac_rfl]; simp
  rw [this, this]
/-- The sums of three lists, turned by one another, are the sum of the bytes so turned. -/
theorem crc_three (a b c : List UInt8) (h1 : a.length = b.length) (h2 : a.length = c.length) :
    crcMore 0 a ^^^ crcMore 0 b ^^^ crcMore 0 c = crcMore 0 (xorB (xorB a b) c) := by
  have e1 := updc_xor (xorB a b) c (4294967295 ^^^ 4294967295) 4294967295 (by rw [xorB_length _ _ h1]; exact h2)
  rw [updc_xor a b 4294967295 4294967295 h1] at e1
  have e2 : (4294967295 ^^^ 4294967295 ^^^ 4294967295 : Nat) = 4294967295 := by simp
  rw [e2] at e1
  simp only [crc_as_xor, e1]
  have : ∀ m x y z : Nat, m ^^^ x ^^^ (m ^^^ y) ^^^ (m ^^^ z) = m ^^^ (x ^^^ y ^^^ z) := fun m x y z => by
    rw [show m ^^^ x ^^^ (m ^^^ y) ^^^ (m ^^^ z) = (m ^^^ m) ^^^ (m ^^^ (x ^^^ y ^^^ z)) by ac_rfl]; simp
  rw [this]
end Go.Proofs.YtalkglmneicpoaaGreatDoor
