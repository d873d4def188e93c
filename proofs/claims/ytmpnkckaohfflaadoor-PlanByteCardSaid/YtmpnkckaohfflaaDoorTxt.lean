/- Texts and their lists of bytes: plain facts. No condition. -/
import Derived.Test.YtmpnkckaohfflaaDoorWMore
import Derived.Lib.Strings
import Derived.Lib.Bytealg
namespace Go.Proofs.YtmpnkckaohfflaaDoor.Txt
open Go.RowKit Go.Proofs.YtmpnkckaohfflaaDoorW.PrintWords
set_option linter.unusedVariables false

/-- a text out of its bytes -/
abbrev S (l : List UInt8) : ByteArray := ⟨l.toArray⟩
abbrev nums (l : List UInt8) : List Int := l.map fun b => (b.toNat : Int)
theorem S_of (s : ByteArray) : s = S s.data.toList := (Lib.mk_data s).symm
theorem data_len (s : ByteArray) : s.data.toList.length = s.size := (Lib.size_eq s).symm
theorem S_size (l : List UInt8) : (S l).size = l.length := by simp [ByteArray.size]
theorem S_toList (l : List UInt8) : (S l).toList = l := by rw [Lib.toList_data]
theorem S_app (a b : List UInt8) : S a ++ S b = S (a ++ b) := by
  apply ByteArray.ext
  simp [S]
theorem S_nums (l : List UInt8) : strOfNums (nums l) = S l := by
  unfold strOfNums nums
  congr 2
  rw [List.map_map]
  have e : ((fun n : Int => UInt8.ofNat n.toNat) ∘ fun b : UInt8 => (b.toNat : Int)) = id := by
    funext b
    simp
  rw [e, List.map_id]
theorem S_extract (l : List UInt8) (a b : Nat) : (S l).extract a b = S ((l.drop a).take (b - a)) := by
  rw [Lib.extract_eq]
theorem S_tail (c : UInt8) (r : List UInt8) : (S (c :: r)).extract 1 (S (c :: r)).size = S r := by
  rw [Lib.extract_eq]
  simp [S, ByteArray.size]
theorem S_inj {a b : List UInt8} (h : S a = S b) : a = b := by
  have := congrArg (fun s : ByteArray => s.toList) h
  simpa only [S_toList] using this
theorem bt_mid (pre suf : List UInt8) (c : UInt8) (i : Int) (hi : i = pre.length) : bt (S (pre ++ c :: suf)) i = (c.toNat : Int) := by
  subst hi
  unfold bt
  have h : ((pre.length : Int)).toNat < (S (pre ++ c :: suf)).size := by rw [S_size]; simp
  rw [dif_pos h]
  congr 2
  simp [ByteArray.getElem_eq_getElem_data]
theorem bt_head (c : UInt8) (r : List UInt8) : bt (S (c :: r)) 0 = (c.toNat : Int) := bt_mid [] r c 0 rfl
theorem bt_get (l : List UInt8) (j : Nat) (h : j < l.length) (i : Int) (hi : i = j) : bt (S l) i = ((l[j]).toNat : Int) := by
  have e : l = l.take j ++ l[j] :: l.drop (j + 1) := by
    rw [← List.drop_eq_getElem_cons h, List.take_append_drop]
  have hm := bt_mid (l.take j) (l.drop (j + 1)) l[j] i (by rw [hi, List.length_take]; omega)
  rwa [← e] at hm
theorem ext (a b : UInt8) (h : a.toNat = b.toNat) : a = b := UInt8.toNat_inj.1 h
theorem byte_eq (a b : UInt8) : ((a.toNat : Int) == (b.toNat : Int)) = (a == b) := by
  rw [Bool.eq_iff_iff, beq_iff_eq, beq_iff_eq]
  constructor
  · intro h
    exact ext _ _ (by omega)
  · rintro rfl
    rfl
theorem byte_ne {a b : UInt8} (h : a ≠ b) : ¬ (a.toNat : Int) = (b.toNat : Int) := fun e => h (ext _ _ (by omega))

theorem indexByte_neg (l : List UInt8) (c : UInt8) : (Lib.indexByte l c < 0) = (c ∉ l) := by
  induction l with
  | nil => simp [Lib.indexByte]
  | cons b l ih =>
    unfold Lib.indexByte
    by_cases hb : b = c
    · subst hb
      simp
    · have hb' : (b == c) = false := by simpa using hb
      rw [hb']
      simp only [Bool.false_eq_true, if_false]
      have hcb : ¬ c = b := fun e => hb e.symm
      simp only [List.mem_cons, hcb, false_or]
      rw [← ih]
      by_cases hm : Lib.indexByte l c = -1
      · simp [hm]
      · have hge : -1 ≤ Lib.indexByte l c := by
          clear ih
          induction l with
          | nil => simp [Lib.indexByte]
          | cons d l ihl =>
            unfold Lib.indexByte
            split
            · omega
            · split
              · omega
              · rename_i h1 h2
                by_cases hl : Lib.indexByte l c = -1
                · simp [hl] at h2
                · have := ihl hl
                  omega
        have e : (Lib.indexByte l c == -1) = false := by simpa using hm
        rw [e]
        simp only [Bool.false_eq_true, if_false, eq_iff_iff]
        omega

end Go.Proofs.YtmpnkckaohfflaaDoor.Txt
