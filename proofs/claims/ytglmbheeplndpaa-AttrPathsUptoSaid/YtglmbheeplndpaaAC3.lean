/- The value machine: the code of functions, as its compiler takes it (printed by a program). -/
import Derived.Test.YtglmbheeplndpaaV25
import Derived.Test.YtglmbheeplndpaaProg
set_option linter.all false
set_option linter.unusedSimpArgs false
set_option linter.unusedVariables false
namespace Go.V
open Go Go.Proofs

def c_r02_Put : VC :=
  (.seq
   (.region [⟨some 4, none, .move (.lit (.c .nilsl)) true⟩])
   (.seq
    (.seq
     (.region [⟨some 6, none, .move (.slot 0) false⟩,
      ⟨some 7, none, .move (.slot 1) false⟩,
      ⟨some 8, none, .call 87 [.slot 6, .slot 7]⟩])
     (.cond (.slot 8)
      (.seq
       (.region [⟨some 9, none, .move (.slot 0) true⟩,
        ⟨some 4, none, .move (.slot 9) true⟩])
       .ret)
      .skip))
    (.seq
     (.region [⟨some 5, none, .move (.lit (.c (.d (.v (.int .i64 0))))) true⟩])
     (.seq
      (.block 0
       (.loop
        (.seq
         (.seq
          (.region [⟨some 10, none, .move (.slot 5) false⟩,
           ⟨some 11, none, .move (.slot 0) false⟩,
           ⟨some 12, none, .len (.slot 11)⟩,
           ⟨some 13, none, .bin false .lss (.slot 10) (.slot 12)⟩,
           ⟨some 14, none, .move (.slot 13) false⟩,
           ⟨some 15, some (14, true), .move (.slot 0) false⟩,
           ⟨some 16, some (14, true), .move (.slot 5) false⟩,
           ⟨some 17, some (14, true), .indexAddr (.slot 15) (.slot 16) 1⟩,
           ⟨some 18, some (14, true), .load (.slot 17) false 1 false⟩,
           ⟨some 19, some (14, true), .move (.slot 1) false⟩,
           ⟨some 20, some (14, true), .bin false .lss (.slot 18) (.slot 19)⟩,
           ⟨some 21, none, .pick (.slot 14) (.slot 20) (.lit (.c (.d (.v (.bool false)))))⟩])
          (.cond (.slot 21)
           .skip
           (.exit 0)))
         (.block 1
          (.region [⟨some 22, none, .move (.slot 5) false⟩,
           ⟨some 23, none, .bin false .add (.slot 22) (.lit (.c (.d (.v (.int .i64 1)))))⟩,
           ⟨some 5, none, .move (.slot 23) true⟩])))))
      (.seq
       (.draw [] [⟨some 24, none, .buildSlice 25 1 0 [.v (.int .u32 0)] []⟩,
        ⟨some 25, none, .move (.slot 0) false⟩,
        ⟨some 26, none, .move (.slot 5) false⟩,
        ⟨some 27, none, .slice 1 (.slot 25) none (some (.slot 26)) none⟩,
        ⟨some 28, none, .append false 25 1 4 (.slot 24) (.slot 27)⟩,
        ⟨some 29, none, .move (.slot 1) false⟩,
        ⟨some 30, none, .buildSlice 25 1 1 [.v (.int .u32 0)] [(0, .slot 29)]⟩,
        ⟨some 31, none, .append false 25 1 4 (.slot 28) (.slot 30)⟩,
        ⟨some 32, none, .move (.slot 0) false⟩,
        ⟨some 33, none, .move (.slot 5) false⟩,
        ⟨some 34, none, .slice 1 (.slot 32) (some (.slot 33)) none none⟩,
        ⟨some 35, none, .append false 25 1 4 (.slot 31) (.slot 34)⟩,
        ⟨some 4, none, .move (.slot 35) true⟩])
       .ret)))))

theorem F_r02_Put : Fn Try.prog 78 Try.f78 36 [9] [.t 4] c_r02_Put where
  hm := by kernel_rfl
  hf := Try.func78
  hb := by kernel_rfl
  hc := by kernel_rfl
  hts := by kernel_rfl
  hnd := by decide
  hn := Nat.le_of_eq (by kernel_rfl)

def c_path_Same : VC :=
  (.seq
   (.region [⟨some 4, none, .move (.lit (.c (.d (.v (.bool false))))) true⟩])
   (.seq
    (.region [⟨some 5, none, .move (.slot 0) false⟩,
     ⟨some 6, none, .move (.slot 1) false⟩,
     ⟨some 7, none, .call 88 [.slot 5, .slot 6]⟩,
     ⟨some 4, none, .move (.slot 7) true⟩])
    .ret))

theorem F_path_Same : Fn Try.prog 79 Try.f79 8 [] [.t 4] c_path_Same where
  hm := by kernel_rfl
  hf := Try.func79
  hb := by kernel_rfl
  hc := by kernel_rfl
  hts := by kernel_rfl
  hnd := by decide
  hn := Nat.le_of_eq (by kernel_rfl)

def c_slices_Equal_uint32_uint32 : VC :=
  (.seq
   (.region [⟨some 4, none, .move (.lit (.c (.d (.v (.bool false))))) true⟩])
   (.seq
    (.seq
     (.region [⟨some 6, none, .move (.slot 0) false⟩,
      ⟨some 7, none, .len (.slot 6)⟩,
      ⟨some 8, none, .move (.slot 1) false⟩,
      ⟨some 9, none, .len (.slot 8)⟩,
      ⟨some 10, none, .bin false .neq (.slot 7) (.slot 9)⟩])
     (.cond (.slot 10)
      (.seq
       (.region [⟨some 4, none, .move (.lit (.c (.d (.v (.bool false))))) true⟩])
       .ret)
      .skip))
    (.seq
     (.seq
      (.region [⟨some 11, none, .move (.slot 0) false⟩,
       ⟨some 12, none, .len (.slot 11)⟩,
       ⟨some 13, none, .move (.lit (.c (.d (.v (.int .i64 0))))) false⟩])
      (.block 0
       (.loop
        (.seq
         (.region [⟨some 14, none, .bin false .lss (.slot 13) (.slot 12)⟩])
         (.seq
          (.cond (.slot 14)
           .skip
           (.exit 0))
          (.seq
           (.block 1
            (.seq
             (.region [⟨some 15, none, .move (.slot 13) false⟩,
              ⟨some 5, none, .move (.slot 15) true⟩])
             (.seq
              (.draw [] [⟨some 16, none, .move (.slot 0) false⟩,
               ⟨some 17, none, .move (.slot 5) false⟩,
               ⟨some 18, none, .indexAddr (.slot 16) (.slot 17) 1⟩,
               ⟨some 19, none, .load (.slot 18) false 1 false⟩,
               ⟨some 20, none, .move (.slot 1) false⟩,
               ⟨some 21, none, .move (.slot 5) false⟩,
               ⟨some 22, none, .indexAddr (.slot 20) (.slot 21) 1⟩,
               ⟨some 23, none, .load (.slot 22) false 1 false⟩,
               ⟨some 24, none, .bin false .neq (.slot 19) (.slot 23)⟩])
              (.cond (.slot 24)
               (.seq
                (.region [⟨some 4, none, .move (.lit (.c (.d (.v (.bool false))))) true⟩])
                .ret)
               .skip))))
           (.region [⟨some 25, none, .bin false .add (.slot 13) (.lit (.c (.d (.v (.int .i64 1)))))⟩,
            ⟨some 13, none, .move (.slot 25) false⟩])))))))
     (.seq
      (.region [⟨some 4, none, .move (.lit (.c (.d (.v (.bool true))))) true⟩])
      .ret))))

theorem F_slices_Equal_uint32_uint32 : Fn Try.prog 80 Try.f80 26 [] [.t 4] c_slices_Equal_uint32_uint32 where
  hm := by kernel_rfl
  hf := Try.func80
  hb := by kernel_rfl
  hc := by kernel_rfl
  hts := by kernel_rfl
  hnd := by decide
  hn := Nat.le_of_eq (by kernel_rfl)

def c_path_Good : VC :=
  (.seq
   (.region [⟨some 2, none, .move (.lit (.c (.d (.v (.bool false))))) true⟩])
   (.seq
    (.region [⟨some 3, none, .move (.slot 0) false⟩,
     ⟨some 4, none, .call 89 [.slot 3]⟩,
     ⟨some 2, none, .move (.slot 4) true⟩])
    .ret))

theorem F_path_Good : Fn Try.prog 81 Try.f81 5 [] [.t 2] c_path_Good where
  hm := by kernel_rfl
  hf := Try.func81
  hb := by kernel_rfl
  hc := by kernel_rfl
  hts := by kernel_rfl
  hnd := by decide
  hn := Nat.le_of_eq (by kernel_rfl)

def c_attr_numbers : VC :=
  (.seq
   (.region [⟨some 6, none, .move (.slot 1) false⟩,
    ⟨some 7, none, .len (.slot 6)⟩,
    ⟨some 8, none, .move (.lit (.c (.d (.v (.int .i64 0))))) false⟩])
   (.block 0
    (.loop
     (.seq
      (.region [⟨some 9, none, .bin false .lss (.slot 8) (.slot 7)⟩])
      (.seq
       (.cond (.slot 9)
        .skip
        (.exit 0))
       (.seq
        (.block 1
         (.seq
          (.region [⟨some 10, none, .indexAddr (.slot 6) (.slot 8) 1⟩,
           ⟨some 11, none, .load (.slot 10) false 1 false⟩,
           ⟨some 5, none, .move (.slot 11) true⟩])
          (.region [⟨some 12, none, .move (.slot 0) false⟩,
           ⟨some 13, none, .move (.slot 5) false⟩,
           ⟨some 14, none, .call 83 [.slot 12, .slot 13]⟩])))
        (.region [⟨some 15, none, .bin false .add (.slot 8) (.lit (.c (.d (.v (.int .i64 1)))))⟩,
         ⟨some 8, none, .move (.slot 15) false⟩])))))))

theorem F_attr_numbers : Fn Try.prog 82 Try.f82 16 [] [] c_attr_numbers where
  hm := by kernel_rfl
  hf := Try.func82
  hb := by kernel_rfl
  hc := by kernel_rfl
  hts := by kernel_rfl
  hnd := by decide
  hn := Nat.le_of_eq (by kernel_rfl)

def c_octet_Writer_U32 : VC :=
  (.seq
   (.region [⟨some 4, none, .move (.lit (.c (.d (.v (.pointer none))))) true⟩])
   (.seq
    (.region [⟨some 5, none, .move (.slot 0) false⟩,
     ⟨some 6, none, .move (.slot 1) false⟩,
     ⟨some 7, none, .bin false .shr (.slot 6) (.lit (.c (.d (.v (.int .u64 24)))))⟩,
     ⟨some 8, none, .conv .u8 (.slot 7)⟩,
     ⟨some 9, none, .move (.slot 1) false⟩,
     ⟨some 10, none, .bin false .shr (.slot 9) (.lit (.c (.d (.v (.int .u64 16)))))⟩,
     ⟨some 11, none, .conv .u8 (.slot 10)⟩,
     ⟨some 12, none, .move (.slot 1) false⟩,
     ⟨some 13, none, .bin false .shr (.slot 12) (.lit (.c (.d (.v (.int .u64 8)))))⟩,
     ⟨some 14, none, .conv .u8 (.slot 13)⟩,
     ⟨some 15, none, .move (.slot 1) false⟩,
     ⟨some 16, none, .conv .u8 (.slot 15)⟩,
     ⟨some 17, none, .buildSlice 5 1 4 [.v (.int .u8 0)] [(0, .slot 8), (1, .slot 11), (2, .slot 14), (3, .slot 16)]⟩,
     ⟨some 18, none, .call 71 [.slot 5, .slot 17]⟩,
     ⟨some 4, none, .move (.slot 18) true⟩])
    .ret))

theorem F_octet_Writer_U32 : Fn Try.prog 83 Try.f83 19 [] [.t 4] c_octet_Writer_U32 where
  hm := by kernel_rfl
  hf := Try.func83
  hb := by kernel_rfl
  hc := by kernel_rfl
  hts := by kernel_rfl
  hnd := by decide
  hn := Nat.le_of_eq (by kernel_rfl)

def c_path_pieces : VC :=
  (.seq
   (.region [⟨some 2, none, .move (.lit (.c .nilsl)) true⟩])
   (.seq
    (.region [⟨some 3, none, .alloc 7 [.nilsl]⟩])
    (.seq
     (.seq
      (.region [⟨some 5, none, .move (.slot 0) false⟩,
       ⟨some 6, none, .call 90 [.slot 5, .lit (.c (.d (.v (.int .i64 255))))]⟩])
      (.block 0
       .dead))
     (.seq
      (.region [⟨some 14, none, .load (.slot 3) false 1 true⟩,
       ⟨some 2, none, .move (.slot 14) true⟩])
      .ret))))

theorem F_path_pieces : Fn Try.prog 84 Try.f84 15 [14] [.t 2] c_path_pieces where
  hm := by kernel_rfl
  hf := Try.func84
  hb := by kernel_rfl
  hc := by kernel_rfl
  hts := by kernel_rfl
  hnd := by decide
  hn := Nat.le_of_eq (by kernel_rfl)

def c_slices_pdqsortOrdered_uint32 : VC :=
  (.seq
   (.region [⟨some 8, none, .move (.lit (.c (.d (.v (.bool true))))) true⟩])
   (.seq
    (.region [⟨some 9, none, .move (.lit (.c (.d (.v (.bool true))))) true⟩])
    (.block 0
     (.loop
      (.block 1
       (.seq
        (.region [⟨some 19, none, .move (.slot 2) false⟩,
         ⟨some 20, none, .move (.slot 1) false⟩,
         ⟨some 21, none, .bin false .sub (.slot 19) (.slot 20)⟩,
         ⟨some 10, none, .move (.slot 21) true⟩])
        (.seq
         (.seq
          (.region [⟨some 22, none, .move (.slot 10) false⟩,
           ⟨some 23, none, .bin false .leq (.slot 22) (.lit (.c (.d (.v (.int .i64 12)))))⟩])
          (.cond (.slot 23)
           (.seq
            (.region [⟨some 24, none, .move (.slot 0) false⟩,
             ⟨some 25, none, .move (.slot 1) false⟩,
             ⟨some 26, none, .move (.slot 2) false⟩,
             ⟨some 27, none, .call 91 [.slot 24, .slot 25, .slot 26]⟩])
            .ret)
           .skip))
         (.seq
          (.seq
           (.region [⟨some 28, none, .move (.slot 3) false⟩,
            ⟨some 29, none, .bin false .eql (.slot 28) (.lit (.c (.d (.v (.int .i64 0)))))⟩])
           (.cond (.slot 29)
            (.seq
             (.region [⟨some 30, none, .move (.slot 0) false⟩,
              ⟨some 31, none, .move (.slot 1) false⟩,
              ⟨some 32, none, .move (.slot 2) false⟩,
              ⟨some 33, none, .call 92 [.slot 30, .slot 31, .slot 32]⟩])
             .ret)
            .skip))
          (.seq
           (.seq
            (.region [⟨some 34, none, .move (.slot 8) false⟩,
             ⟨some 35, none, .un .not (.slot 34)⟩])
            (.cond (.slot 35)
             (.seq
              (.region [⟨some 36, none, .move (.slot 0) false⟩,
               ⟨some 37, none, .move (.slot 1) false⟩,
               ⟨some 38, none, .move (.slot 2) false⟩,
               ⟨some 39, none, .call 93 [.slot 36, .slot 37, .slot 38]⟩])
              (.region [⟨some 40, none, .move (.slot 3) false⟩,
               ⟨some 41, none, .bin false .sub (.slot 40) (.lit (.c (.d (.v (.int .i64 1)))))⟩,
               ⟨some 3, none, .move (.slot 41) true⟩]))
             .skip))
           (.seq
            (.region [⟨some 43, none, .move (.slot 0) false⟩,
             ⟨some 44, none, .move (.slot 1) false⟩,
             ⟨some 45, none, .move (.slot 2) false⟩,
             ⟨some 46, none, .call 94 [.slot 43, .slot 44, .slot 45]⟩,
             ⟨some 42, none, .move (.slot 46) false⟩,
             ⟨some 47, none, .extract (.slot 42) 0 false⟩,
             ⟨some 48, none, .extract (.slot 42) 1 false⟩,
             ⟨some 11, none, .move (.slot 47) true⟩,
             ⟨some 12, none, .move (.slot 48) true⟩])
            (.seq
             (.seq
              (.region [⟨some 49, none, .move (.slot 12) false⟩,
               ⟨some 50, none, .bin false .eql (.slot 49) (.lit (.c (.d (.v (.int .i64 2)))))⟩])
              (.cond (.slot 50)
               (.seq
                (.region [⟨some 51, none, .move (.slot 0) false⟩,
                 ⟨some 52, none, .move (.slot 1) false⟩,
                 ⟨some 53, none, .move (.slot 2) false⟩,
                 ⟨some 54, none, .call 95 [.slot 51, .slot 52, .slot 53]⟩])
                (.seq
                 (.region [⟨some 55, none, .move (.slot 2) false⟩,
                  ⟨some 56, none, .bin false .sub (.slot 55) (.lit (.c (.d (.v (.int .i64 1)))))⟩,
                  ⟨some 57, none, .move (.slot 11) false⟩,
                  ⟨some 58, none, .move (.slot 1) false⟩,
                  ⟨some 59, none, .bin false .sub (.slot 57) (.slot 58)⟩,
                  ⟨some 60, none, .bin false .sub (.slot 56) (.slot 59)⟩,
                  ⟨some 11, none, .move (.slot 60) true⟩])
                 (.region [⟨some 12, none, .move (.lit (.c (.d (.v (.int .i64 1))))) true⟩])))
               .skip))
             (.seq
              (.seq
               (.region [⟨some 61, none, .move (.slot 8) false⟩,
                ⟨some 62, none, .move (.slot 61) false⟩,
                ⟨some 63, some (62, true), .move (.slot 9) false⟩,
                ⟨some 64, none, .pick (.slot 62) (.slot 63) (.lit (.c (.d (.v (.bool false)))))⟩,
                ⟨some 65, none, .move (.slot 64) false⟩,
                ⟨some 66, some (65, true), .move (.slot 12) false⟩,
                ⟨some 67, some (65, true), .bin false .eql (.slot 66) (.lit (.c (.d (.v (.int .i64 1)))))⟩,
                ⟨some 68, none, .pick (.slot 65) (.slot 67) (.lit (.c (.d (.v (.bool false)))))⟩])
               (.cond (.slot 68)
                (.seq
                 (.region [⟨some 69, none, .move (.slot 0) false⟩,
                  ⟨some 70, none, .move (.slot 1) false⟩,
                  ⟨some 71, none, .move (.slot 2) false⟩,
                  ⟨some 72, none, .call 96 [.slot 69, .slot 70, .slot 71]⟩])
                 (.cond (.slot 72)
                  .ret
                  .skip))
                .skip))
              (.seq
               (.seq
                (.draw [] [⟨some 73, none, .move (.slot 1) false⟩,
                 ⟨some 74, none, .bin false .gtr (.slot 73) (.lit (.c (.d (.v (.int .i64 0)))))⟩,
                 ⟨some 75, none, .move (.slot 74) false⟩,
                 ⟨some 76, some (75, true), .move (.slot 0) false⟩,
                 ⟨some 77, some (75, true), .move (.slot 1) false⟩,
                 ⟨some 78, some (75, true), .bin false .sub (.slot 77) (.lit (.c (.d (.v (.int .i64 1)))))⟩,
                 ⟨some 79, some (75, true), .indexAddr (.slot 76) (.slot 78) 1⟩,
                 ⟨some 80, some (75, true), .load (.slot 79) false 1 false⟩,
                 ⟨some 81, some (75, true), .move (.slot 0) false⟩,
                 ⟨some 82, some (75, true), .move (.slot 11) false⟩,
                 ⟨some 83, some (75, true), .indexAddr (.slot 81) (.slot 82) 1⟩,
                 ⟨some 84, some (75, true), .load (.slot 83) false 1 false⟩,
                 ⟨some 85, some (75, true), .call 97 [.slot 80, .slot 84]⟩,
                 ⟨some 86, some (75, true), .un .not (.slot 85)⟩,
                 ⟨some 87, none, .pick (.slot 75) (.slot 86) (.lit (.c (.d (.v (.bool false)))))⟩])
                (.cond (.slot 87)
                 (.seq
                  (.region [⟨some 88, none, .move (.slot 0) false⟩,
                   ⟨some 89, none, .move (.slot 1) false⟩,
                   ⟨some 90, none, .move (.slot 2) false⟩,
                   ⟨some 91, none, .move (.slot 11) false⟩,
                   ⟨some 92, none, .call 98 [.slot 88, .slot 89, .slot 90, .slot 91]⟩,
                   ⟨some 13, none, .move (.slot 92) true⟩])
                  (.seq
                   (.region [⟨some 93, none, .move (.slot 13) false⟩,
                    ⟨some 1, none, .move (.slot 93) true⟩])
                   (.exit 1)))
                 .skip))
               (.seq
                (.region [⟨some 95, none, .move (.slot 0) false⟩,
                 ⟨some 96, none, .move (.slot 1) false⟩,
                 ⟨some 97, none, .move (.slot 2) false⟩,
                 ⟨some 98, none, .move (.slot 11) false⟩,
                 ⟨some 99, none, .call 99 [.slot 95, .slot 96, .slot 97, .slot 98]⟩,
                 ⟨some 94, none, .move (.slot 99) false⟩,
                 ⟨some 100, none, .extract (.slot 94) 0 false⟩,
                 ⟨some 101, none, .extract (.slot 94) 1 false⟩,
                 ⟨some 14, none, .move (.slot 100) true⟩,
                 ⟨some 15, none, .move (.slot 101) true⟩])
                (.seq
                 (.region [⟨some 102, none, .move (.slot 15) false⟩,
                  ⟨some 9, none, .move (.slot 102) true⟩])
                 (.seq
                  (.region [⟨some 103, none, .move (.slot 14) false⟩,
                   ⟨some 104, none, .move (.slot 1) false⟩,
                   ⟨some 105, none, .bin false .sub (.slot 103) (.slot 104)⟩,
                   ⟨some 106, none, .move (.slot 2) false⟩,
                   ⟨some 107, none, .move (.slot 14) false⟩,
                   ⟨some 108, none, .bin false .sub (.slot 106) (.slot 107)⟩,
                   ⟨some 16, none, .move (.slot 105) true⟩,
                   ⟨some 17, none, .move (.slot 108) true⟩])
                  (.seq
                   (.region [⟨some 109, none, .move (.slot 10) false⟩,
                    ⟨some 110, none, .bin false .quo (.slot 109) (.lit (.c (.d (.v (.int .i64 8)))))⟩,
                    ⟨some 18, none, .move (.slot 110) true⟩])
                   (.seq
                    (.region [⟨some 111, none, .move (.slot 16) false⟩,
                     ⟨some 112, none, .move (.slot 17) false⟩,
                     ⟨some 113, none, .bin false .lss (.slot 111) (.slot 112)⟩])
                    (.cond (.slot 113)
                     (.seq
                      (.region [⟨some 114, none, .move (.slot 16) false⟩,
                       ⟨some 115, none, .move (.slot 18) false⟩,
                       ⟨some 116, none, .bin false .geq (.slot 114) (.slot 115)⟩,
                       ⟨some 8, none, .move (.slot 116) true⟩])
                      (.seq
                       (.region [⟨some 117, none, .move (.slot 0) false⟩,
                        ⟨some 118, none, .move (.slot 1) false⟩,
                        ⟨some 119, none, .move (.slot 14) false⟩,
                        ⟨some 120, none, .move (.slot 3) false⟩,
                        ⟨some 121, none, .call 85 [.slot 117, .slot 118, .slot 119, .slot 120]⟩])
                       (.region [⟨some 122, none, .move (.slot 14) false⟩,
                        ⟨some 123, none, .bin false .add (.slot 122) (.lit (.c (.d (.v (.int .i64 1)))))⟩,
                        ⟨some 1, none, .move (.slot 123) true⟩])))
                     (.seq
                      (.region [⟨some 124, none, .move (.slot 17) false⟩,
                       ⟨some 125, none, .move (.slot 18) false⟩,
                       ⟨some 126, none, .bin false .geq (.slot 124) (.slot 125)⟩,
                       ⟨some 8, none, .move (.slot 126) true⟩])
                      (.seq
                       (.region [⟨some 127, none, .move (.slot 0) false⟩,
                        ⟨some 128, none, .move (.slot 14) false⟩,
                        ⟨some 129, none, .bin false .add (.slot 128) (.lit (.c (.d (.v (.int .i64 1)))))⟩,
                        ⟨some 130, none, .move (.slot 2) false⟩,
                        ⟨some 131, none, .move (.slot 3) false⟩,
                        ⟨some 132, none, .call 85 [.slot 127, .slot 129, .slot 130, .slot 131]⟩])
                       (.region [⟨some 133, none, .move (.slot 14) false⟩,
                        ⟨some 2, none, .move (.slot 133) true⟩]))))))))))))))))))))))

theorem F_slices_pdqsortOrdered_uint32 : Fn Try.prog 85 Try.f85 134 [] [] c_slices_pdqsortOrdered_uint32 where
  hm := by kernel_rfl
  hf := Try.func85
  hb := by kernel_rfl
  hc := by kernel_rfl
  hts := by kernel_rfl
  hnd := by decide
  hn := Nat.le_of_eq (by kernel_rfl)

def c_math_bits_Len : VC :=
  (.seq
   (.region [⟨some 2, none, .move (.lit (.c (.d (.v (.int .i64 0))))) true⟩])
   (.seq
    (.cond (.lit (.c (.d (.v (.bool false)))))
     (.seq
      (.region [⟨some 3, none, .move (.slot 0) false⟩,
       ⟨some 4, none, .conv .u32 (.slot 3)⟩,
       ⟨some 5, none, .call 100 [.slot 4]⟩,
       ⟨some 2, none, .move (.slot 5) true⟩])
      .ret)
     .skip)
    (.seq
     (.region [⟨some 6, none, .move (.slot 0) false⟩,
      ⟨some 7, none, .call 101 [.slot 6]⟩,
      ⟨some 2, none, .move (.slot 7) true⟩])
     .ret)))

theorem F_math_bits_Len : Fn Try.prog 86 Try.f86 8 [] [.t 2] c_math_bits_Len where
  hm := by kernel_rfl
  hf := Try.func86
  hb := by kernel_rfl
  hc := by kernel_rfl
  hts := by kernel_rfl
  hnd := by decide
  hn := Nat.le_of_eq (by kernel_rfl)

def c_r02_Has : VC :=
  (.seq
   (.region [⟨some 4, none, .move (.lit (.c (.d (.v (.bool false))))) true⟩])
   (.seq
    (.seq
     (.region [⟨some 5, none, .move (.lit (.c (.d (.v (.int .i64 0))))) true⟩])
     (.block 0
      (.loop
       (.seq
        (.seq
         (.region [⟨some 6, none, .move (.slot 5) false⟩,
          ⟨some 7, none, .move (.slot 0) false⟩,
          ⟨some 8, none, .len (.slot 7)⟩,
          ⟨some 9, none, .bin false .lss (.slot 6) (.slot 8)⟩])
         (.cond (.slot 9)
          .skip
          (.exit 0)))
        (.seq
         (.block 1
          (.seq
           (.region [⟨some 12, none, .move (.slot 0) false⟩,
            ⟨some 13, none, .move (.slot 5) false⟩,
            ⟨some 14, none, .indexAddr (.slot 12) (.slot 13) 1⟩,
            ⟨some 15, none, .load (.slot 14) false 1 false⟩,
            ⟨some 16, none, .move (.slot 1) false⟩,
            ⟨some 17, none, .bin false .eql (.slot 15) (.slot 16)⟩])
           (.cond (.slot 17)
            (.seq
             (.region [⟨some 4, none, .move (.lit (.c (.d (.v (.bool true))))) true⟩])
             .ret)
            .skip)))
         (.region [⟨some 10, none, .move (.slot 5) false⟩,
          ⟨some 11, none, .bin false .add (.slot 10) (.lit (.c (.d (.v (.int .i64 1)))))⟩,
          ⟨some 5, none, .move (.slot 11) true⟩]))))))
    (.seq
     (.region [⟨some 4, none, .move (.lit (.c (.d (.v (.bool false))))) true⟩])
     .ret)))

theorem F_r02_Has : Fn Try.prog 87 Try.f87 18 [] [.t 4] c_r02_Has where
  hm := by kernel_rfl
  hf := Try.func87
  hb := by kernel_rfl
  hc := by kernel_rfl
  hts := by kernel_rfl
  hnd := by decide
  hn := Nat.le_of_eq (by kernel_rfl)

def c_path_same : VC :=
  (.seq
   (.region [⟨some 4, none, .move (.lit (.c (.d (.v (.bool false))))) true⟩])
   (.seq
    (.region [⟨some 5, none, .move (.slot 0) false⟩,
     ⟨some 6, none, .move (.slot 1) false⟩,
     ⟨some 7, none, .call 102 [.slot 5, .slot 6, .lit (.c (.d (.v (.func (.func 103) #[] #[]))))]⟩,
     ⟨some 4, none, .move (.slot 7) true⟩])
    .ret))

theorem F_path_same : Fn Try.prog 88 Try.f88 8 [] [.t 4] c_path_same where
  hm := by kernel_rfl
  hf := Try.func88
  hb := by kernel_rfl
  hc := by kernel_rfl
  hts := by kernel_rfl
  hnd := by decide
  hn := Nat.le_of_eq (by kernel_rfl)

def c_path_good : VC :=
  (.seq
   (.region [⟨some 2, none, .move (.lit (.c (.d (.v (.bool false))))) true⟩])
   (.seq
    (.seq
     (.region [⟨some 5, none, .move (.slot 0) false⟩,
      ⟨some 6, none, .len (.slot 5)⟩,
      ⟨some 7, none, .move (.lit (.c (.d (.v (.int .i64 0))))) false⟩])
     (.block 0
      (.loop
       (.seq
        (.region [⟨some 8, none, .bin false .lss (.slot 7) (.slot 6)⟩])
        (.seq
         (.cond (.slot 8)
          .skip
          (.exit 0))
         (.seq
          (.block 1
           (.seq
            (.region [⟨some 9, none, .indexAddr (.slot 5) (.slot 7) 2⟩,
             ⟨some 10, none, .load (.slot 9) true 2 false⟩,
             ⟨some 4, none, .alloc 9 [.d (.v (.int .i64 0)), .nilsl]⟩,
             ⟨none, none, .store (.slot 4) (.slot 10) 2⟩])
            (.seq
             (.region [⟨some 11, none, .fieldAddr (.slot 4) 1⟩,
              ⟨some 12, none, .load (.slot 11) false 1 false⟩,
              ⟨some 13, none, .len (.slot 12)⟩,
              ⟨some 14, none, .bin false .lss (.slot 13) (.lit (.c (.d (.v (.int .i64 1)))))⟩,
              ⟨some 15, none, .move (.slot 14) false⟩,
              ⟨some 16, some (15, false), .fieldAddr (.slot 4) 1⟩,
              ⟨some 17, some (15, false), .load (.slot 16) false 1 false⟩,
              ⟨some 18, some (15, false), .len (.slot 17)⟩,
              ⟨some 19, some (15, false), .bin false .gtr (.slot 18) (.lit (.c (.d (.v (.int .i64 255)))))⟩,
              ⟨some 20, none, .pick (.slot 15) (.lit (.c (.d (.v (.bool true))))) (.slot 19)⟩])
             (.cond (.slot 20)
              (.seq
               (.region [⟨some 2, none, .move (.lit (.c (.d (.v (.bool false))))) true⟩])
               .ret)
              .skip))))
          (.region [⟨some 21, none, .bin false .add (.slot 7) (.lit (.c (.d (.v (.int .i64 1)))))⟩,
           ⟨some 7, none, .move (.slot 21) false⟩])))))))
    (.seq
     (.region [⟨some 22, none, .move (.slot 0) false⟩,
      ⟨some 23, none, .len (.slot 22)⟩,
      ⟨some 24, none, .bin false .leq (.slot 23) (.lit (.c (.d (.v (.int .i64 100)))))⟩,
      ⟨some 25, none, .move (.slot 24) false⟩,
      ⟨some 26, some (25, true), .move (.slot 0) false⟩,
      ⟨some 27, some (25, true), .call 73 [.slot 26]⟩,
      ⟨some 28, some (25, true), .move (.slot 0) false⟩,
      ⟨some 29, some (25, true), .call 88 [.slot 27, .slot 28]⟩,
      ⟨some 30, none, .pick (.slot 25) (.slot 29) (.lit (.c (.d (.v (.bool false)))))⟩,
      ⟨some 2, none, .move (.slot 30) true⟩])
     .ret)))

theorem F_path_good : Fn Try.prog 89 Try.f89 31 [] [.t 2] c_path_good where
  hm := by kernel_rfl
  hf := Try.func89
  hb := by kernel_rfl
  hc := by kernel_rfl
  hts := by kernel_rfl
  hnd := by decide
  hn := Nat.le_of_eq (by kernel_rfl)

def c_slices_Chunk_uint32_uint32 : VC :=
  (.seq
   (.region [⟨some 2, none, .box 5 1 (.slot 0)⟩,
    ⟨some 3, none, .box 7 1 (.slot 1)⟩,
    ⟨some 4, none, .move (.lit (.c (.d (.v .nilFunc)))) true⟩])
   (.seq
    (.seq
     (.region [⟨some 5, none, .load (.slot 3) false 1 false⟩,
      ⟨some 6, none, .bin false .lss (.slot 5) (.lit (.c (.d (.v (.int .i64 1)))))⟩])
     (.cond (.slot 6)
      .dead
      .skip))
    (.seq
     (.region [⟨some 8, none, .mkFn 104 [.slot 2, .slot 3]⟩,
      ⟨some 4, none, .move (.slot 8) true⟩])
     .ret)))

theorem F_slices_Chunk_uint32_uint32 : Fn Try.prog 90 Try.f90 9 [] [.t 4] c_slices_Chunk_uint32_uint32 where
  hm := by kernel_rfl
  hf := Try.func90
  hb := by kernel_rfl
  hc := by kernel_rfl
  hts := by kernel_rfl
  hnd := by decide
  hn := Nat.le_of_eq (by kernel_rfl)

def c_slices_insertionSortOrdered_uint32 : VC :=
  (.seq
   (.region [⟨some 8, none, .move (.slot 1) false⟩,
    ⟨some 9, none, .bin false .add (.slot 8) (.lit (.c (.d (.v (.int .i64 1)))))⟩,
    ⟨some 6, none, .move (.slot 9) true⟩])
   (.block 0
    (.loop
     (.seq
      (.seq
       (.region [⟨some 10, none, .move (.slot 6) false⟩,
        ⟨some 11, none, .move (.slot 2) false⟩,
        ⟨some 12, none, .bin false .lss (.slot 10) (.slot 11)⟩])
       (.cond (.slot 12)
        .skip
        (.exit 0)))
      (.seq
       (.block 1
        (.seq
         (.region [⟨some 15, none, .move (.slot 6) false⟩,
          ⟨some 7, none, .move (.slot 15) true⟩])
         (.block 2
          (.loop
           (.seq
            (.seq
             (.draw [] [⟨some 16, none, .move (.slot 7) false⟩,
              ⟨some 17, none, .move (.slot 1) false⟩,
              ⟨some 18, none, .bin false .gtr (.slot 16) (.slot 17)⟩,
              ⟨some 19, none, .move (.slot 18) false⟩,
              ⟨some 20, some (19, true), .move (.slot 0) false⟩,
              ⟨some 21, some (19, true), .move (.slot 7) false⟩,
              ⟨some 22, some (19, true), .indexAddr (.slot 20) (.slot 21) 1⟩,
              ⟨some 23, some (19, true), .load (.slot 22) false 1 false⟩,
              ⟨some 24, some (19, true), .move (.slot 0) false⟩,
              ⟨some 25, some (19, true), .move (.slot 7) false⟩,
              ⟨some 26, some (19, true), .bin false .sub (.slot 25) (.lit (.c (.d (.v (.int .i64 1)))))⟩,
              ⟨some 27, some (19, true), .indexAddr (.slot 24) (.slot 26) 1⟩,
              ⟨some 28, some (19, true), .load (.slot 27) false 1 false⟩,
              ⟨some 29, some (19, true), .call 97 [.slot 23, .slot 28]⟩,
              ⟨some 30, none, .pick (.slot 19) (.slot 29) (.lit (.c (.d (.v (.bool false)))))⟩])
             (.cond (.slot 30)
              .skip
              (.exit 2)))
            (.seq
             (.block 3
              (.draw [] [⟨some 33, none, .move (.slot 0) false⟩,
               ⟨some 34, none, .move (.slot 7) false⟩,
               ⟨some 35, none, .move (.slot 0) false⟩,
               ⟨some 36, none, .move (.slot 7) false⟩,
               ⟨some 37, none, .bin false .sub (.slot 36) (.lit (.c (.d (.v (.int .i64 1)))))⟩,
               ⟨some 38, none, .move (.slot 0) false⟩,
               ⟨some 39, none, .move (.slot 7) false⟩,
               ⟨some 40, none, .bin false .sub (.slot 39) (.lit (.c (.d (.v (.int .i64 1)))))⟩,
               ⟨some 41, none, .indexAddr (.slot 38) (.slot 40) 1⟩,
               ⟨some 42, none, .load (.slot 41) false 1 false⟩,
               ⟨some 43, none, .move (.slot 0) false⟩,
               ⟨some 44, none, .move (.slot 7) false⟩,
               ⟨some 45, none, .indexAddr (.slot 43) (.slot 44) 1⟩,
               ⟨some 46, none, .load (.slot 45) false 1 false⟩,
               ⟨some 47, none, .indexAddr (.slot 33) (.slot 34) 1⟩,
               ⟨none, none, .store (.slot 47) (.slot 42) 1⟩,
               ⟨some 48, none, .indexAddr (.slot 35) (.slot 37) 1⟩,
               ⟨none, none, .store (.slot 48) (.slot 46) 1⟩]))
             (.region [⟨some 31, none, .move (.slot 7) false⟩,
              ⟨some 32, none, .bin false .sub (.slot 31) (.lit (.c (.d (.v (.int .i64 1)))))⟩,
              ⟨some 7, none, .move (.slot 32) true⟩])))))))
       (.region [⟨some 13, none, .move (.slot 6) false⟩,
        ⟨some 14, none, .bin false .add (.slot 13) (.lit (.c (.d (.v (.int .i64 1)))))⟩,
        ⟨some 6, none, .move (.slot 14) true⟩]))))))

theorem F_slices_insertionSortOrdered_uint32 : Fn Try.prog 91 Try.f91 49 [] [] c_slices_insertionSortOrdered_uint32 where
  hm := by kernel_rfl
  hf := Try.func91
  hb := by kernel_rfl
  hc := by kernel_rfl
  hts := by kernel_rfl
  hnd := by decide
  hn := Nat.le_of_eq (by kernel_rfl)

def c_slices_heapSortOrdered_uint32 : VC :=
  (.seq
   (.region [⟨some 11, none, .move (.slot 1) false⟩,
    ⟨some 6, none, .move (.slot 11) true⟩])
   (.seq
    (.region [⟨some 7, none, .move (.lit (.c (.d (.v (.int .i64 0))))) true⟩])
    (.seq
     (.region [⟨some 12, none, .move (.slot 2) false⟩,
      ⟨some 13, none, .move (.slot 1) false⟩,
      ⟨some 14, none, .bin false .sub (.slot 12) (.slot 13)⟩,
      ⟨some 8, none, .move (.slot 14) true⟩])
     (.seq
      (.seq
       (.region [⟨some 15, none, .move (.slot 8) false⟩,
        ⟨some 16, none, .bin false .sub (.slot 15) (.lit (.c (.d (.v (.int .i64 1)))))⟩,
        ⟨some 17, none, .bin false .quo (.slot 16) (.lit (.c (.d (.v (.int .i64 2)))))⟩,
        ⟨some 9, none, .move (.slot 17) true⟩])
       (.block 0
        (.loop
         (.seq
          (.seq
           (.region [⟨some 18, none, .move (.slot 9) false⟩,
            ⟨some 19, none, .bin false .geq (.slot 18) (.lit (.c (.d (.v (.int .i64 0)))))⟩])
           (.cond (.slot 19)
            .skip
            (.exit 0)))
          (.seq
           (.block 1
            (.region [⟨some 22, none, .move (.slot 0) false⟩,
             ⟨some 23, none, .move (.slot 9) false⟩,
             ⟨some 24, none, .move (.slot 8) false⟩,
             ⟨some 25, none, .move (.slot 6) false⟩,
             ⟨some 26, none, .call 105 [.slot 22, .slot 23, .slot 24, .slot 25]⟩]))
           (.region [⟨some 20, none, .move (.slot 9) false⟩,
            ⟨some 21, none, .bin false .sub (.slot 20) (.lit (.c (.d (.v (.int .i64 1)))))⟩,
            ⟨some 9, none, .move (.slot 21) true⟩]))))))
      (.seq
       (.region [⟨some 27, none, .move (.slot 8) false⟩,
        ⟨some 28, none, .bin false .sub (.slot 27) (.lit (.c (.d (.v (.int .i64 1)))))⟩,
        ⟨some 10, none, .move (.slot 28) true⟩])
       (.block 2
        (.loop
         (.seq
          (.seq
           (.region [⟨some 29, none, .move (.slot 10) false⟩,
            ⟨some 30, none, .bin false .geq (.slot 29) (.lit (.c (.d (.v (.int .i64 0)))))⟩])
           (.cond (.slot 30)
            .skip
            (.exit 2)))
          (.seq
           (.block 3
            (.seq
             (.draw [] [⟨some 33, none, .move (.slot 0) false⟩,
              ⟨some 34, none, .move (.slot 6) false⟩,
              ⟨some 35, none, .move (.slot 0) false⟩,
              ⟨some 36, none, .move (.slot 6) false⟩,
              ⟨some 37, none, .move (.slot 10) false⟩,
              ⟨some 38, none, .bin false .add (.slot 36) (.slot 37)⟩,
              ⟨some 39, none, .move (.slot 0) false⟩,
              ⟨some 40, none, .move (.slot 6) false⟩,
              ⟨some 41, none, .move (.slot 10) false⟩,
              ⟨some 42, none, .bin false .add (.slot 40) (.slot 41)⟩,
              ⟨some 43, none, .indexAddr (.slot 39) (.slot 42) 1⟩,
              ⟨some 44, none, .load (.slot 43) false 1 false⟩,
              ⟨some 45, none, .move (.slot 0) false⟩,
              ⟨some 46, none, .move (.slot 6) false⟩,
              ⟨some 47, none, .indexAddr (.slot 45) (.slot 46) 1⟩,
              ⟨some 48, none, .load (.slot 47) false 1 false⟩,
              ⟨some 49, none, .indexAddr (.slot 33) (.slot 34) 1⟩,
              ⟨none, none, .store (.slot 49) (.slot 44) 1⟩,
              ⟨some 50, none, .indexAddr (.slot 35) (.slot 38) 1⟩,
              ⟨none, none, .store (.slot 50) (.slot 48) 1⟩])
             (.region [⟨some 51, none, .move (.slot 0) false⟩,
              ⟨some 52, none, .move (.slot 7) false⟩,
              ⟨some 53, none, .move (.slot 10) false⟩,
              ⟨some 54, none, .move (.slot 6) false⟩,
              ⟨some 55, none, .call 105 [.slot 51, .slot 52, .slot 53, .slot 54]⟩])))
           (.region [⟨some 31, none, .move (.slot 10) false⟩,
            ⟨some 32, none, .bin false .sub (.slot 31) (.lit (.c (.d (.v (.int .i64 1)))))⟩,
            ⟨some 10, none, .move (.slot 32) true⟩]))))))))))

theorem F_slices_heapSortOrdered_uint32 : Fn Try.prog 92 Try.f92 56 [] [] c_slices_heapSortOrdered_uint32 where
  hm := by kernel_rfl
  hf := Try.func92
  hb := by kernel_rfl
  hc := by kernel_rfl
  hts := by kernel_rfl
  hnd := by decide
  hn := Nat.le_of_eq (by kernel_rfl)

def c_slices_breakPatternsOrdered_uint32 : VC :=
  (.seq
   (.region [⟨some 11, none, .move (.slot 2) false⟩,
    ⟨some 12, none, .move (.slot 1) false⟩,
    ⟨some 13, none, .bin false .sub (.slot 11) (.slot 12)⟩,
    ⟨some 6, none, .move (.slot 13) true⟩])
   (.seq
    (.region [⟨some 14, none, .move (.slot 6) false⟩,
     ⟨some 15, none, .bin false .geq (.slot 14) (.lit (.c (.d (.v (.int .i64 8)))))⟩])
    (.cond (.slot 15)
     (.seq
      (.region [⟨some 16, none, .move (.slot 6) false⟩,
       ⟨some 17, none, .conv .u64 (.slot 16)⟩,
       ⟨some 7, none, .alloc 15 [.d (.v (.int .u64 0))]⟩,
       ⟨none, none, .store (.slot 7) (.slot 17) 1⟩])
      (.seq
       (.region [⟨some 18, none, .move (.slot 6) false⟩,
        ⟨some 19, none, .call 106 [.slot 18]⟩,
        ⟨some 8, none, .move (.slot 19) true⟩])
       (.seq
        (.region [⟨some 20, none, .move (.slot 1) false⟩,
         ⟨some 21, none, .move (.slot 6) false⟩,
         ⟨some 22, none, .bin false .quo (.slot 21) (.lit (.c (.d (.v (.int .i64 4)))))⟩,
         ⟨some 23, none, .bin false .mul (.slot 22) (.lit (.c (.d (.v (.int .i64 2)))))⟩,
         ⟨some 24, none, .bin false .add (.slot 20) (.slot 23)⟩,
         ⟨some 25, none, .bin false .sub (.slot 24) (.lit (.c (.d (.v (.int .i64 1)))))⟩,
         ⟨some 9, none, .move (.slot 25) true⟩])
        (.block 0
         (.loop
          (.seq
           (.seq
            (.region [⟨some 26, none, .move (.slot 9) false⟩,
             ⟨some 27, none, .move (.slot 1) false⟩,
             ⟨some 28, none, .move (.slot 6) false⟩,
             ⟨some 29, none, .bin false .quo (.slot 28) (.lit (.c (.d (.v (.int .i64 4)))))⟩,
             ⟨some 30, none, .bin false .mul (.slot 29) (.lit (.c (.d (.v (.int .i64 2)))))⟩,
             ⟨some 31, none, .bin false .add (.slot 27) (.slot 30)⟩,
             ⟨some 32, none, .bin false .add (.slot 31) (.lit (.c (.d (.v (.int .i64 1)))))⟩,
             ⟨some 33, none, .bin false .leq (.slot 26) (.slot 32)⟩])
            (.cond (.slot 33)
             .skip
             (.exit 0)))
           (.seq
            (.block 1
             (.seq
              (.region [⟨some 36, none, .call 107 [.slot 7]⟩,
               ⟨some 37, none, .move (.slot 8) false⟩,
               ⟨some 38, none, .bin false .sub (.slot 37) (.lit (.c (.d (.v (.int .u64 1)))))⟩,
               ⟨some 39, none, .bin false .and (.slot 36) (.slot 38)⟩,
               ⟨some 40, none, .conv .i64 (.slot 39)⟩,
               ⟨some 10, none, .move (.slot 40) true⟩])
              (.seq
               (.seq
                (.region [⟨some 41, none, .move (.slot 10) false⟩,
                 ⟨some 42, none, .move (.slot 6) false⟩,
                 ⟨some 43, none, .bin false .geq (.slot 41) (.slot 42)⟩])
                (.cond (.slot 43)
                 (.region [⟨some 44, none, .move (.slot 10) false⟩,
                  ⟨some 45, none, .move (.slot 6) false⟩,
                  ⟨some 46, none, .bin false .sub (.slot 44) (.slot 45)⟩,
                  ⟨some 10, none, .move (.slot 46) true⟩])
                 .skip))
               (.draw [] [⟨some 47, none, .move (.slot 0) false⟩,
                ⟨some 48, none, .move (.slot 9) false⟩,
                ⟨some 49, none, .move (.slot 0) false⟩,
                ⟨some 50, none, .move (.slot 1) false⟩,
                ⟨some 51, none, .move (.slot 10) false⟩,
                ⟨some 52, none, .bin false .add (.slot 50) (.slot 51)⟩,
                ⟨some 53, none, .move (.slot 0) false⟩,
                ⟨some 54, none, .move (.slot 1) false⟩,
                ⟨some 55, none, .move (.slot 10) false⟩,
                ⟨some 56, none, .bin false .add (.slot 54) (.slot 55)⟩,
                ⟨some 57, none, .indexAddr (.slot 53) (.slot 56) 1⟩,
                ⟨some 58, none, .load (.slot 57) false 1 false⟩,
                ⟨some 59, none, .move (.slot 0) false⟩,
                ⟨some 60, none, .move (.slot 9) false⟩,
                ⟨some 61, none, .indexAddr (.slot 59) (.slot 60) 1⟩,
                ⟨some 62, none, .load (.slot 61) false 1 false⟩,
                ⟨some 63, none, .indexAddr (.slot 47) (.slot 48) 1⟩,
                ⟨none, none, .store (.slot 63) (.slot 58) 1⟩,
                ⟨some 64, none, .indexAddr (.slot 49) (.slot 52) 1⟩,
                ⟨none, none, .store (.slot 64) (.slot 62) 1⟩]))))
            (.region [⟨some 34, none, .move (.slot 9) false⟩,
             ⟨some 35, none, .bin false .add (.slot 34) (.lit (.c (.d (.v (.int .i64 1)))))⟩,
             ⟨some 9, none, .move (.slot 35) true⟩]))))))))
     .skip)))

theorem F_slices_breakPatternsOrdered_uint32 : Fn Try.prog 93 Try.f93 65 [] [] c_slices_breakPatternsOrdered_uint32 where
  hm := by kernel_rfl
  hf := Try.func93
  hb := by kernel_rfl
  hc := by kernel_rfl
  hts := by kernel_rfl
  hnd := by decide
  hn := Nat.le_of_eq (by kernel_rfl)

def c_slices_choosePivotOrdered_uint32 : VC :=
  (.seq
   (.region [⟨some 6, none, .move (.lit (.c (.d (.v (.int .i64 0))))) true⟩,
    ⟨some 7, none, .move (.lit (.c (.d (.v (.int .i64 0))))) true⟩])
   (.seq
    (.region [⟨some 13, none, .move (.slot 2) false⟩,
     ⟨some 14, none, .move (.slot 1) false⟩,
     ⟨some 15, none, .bin false .sub (.slot 13) (.slot 14)⟩,
     ⟨some 8, none, .move (.slot 15) true⟩])
    (.seq
     (.region [⟨some 9, none, .alloc 19 [.d (.v (.int .i64 0))]⟩])
     (.seq
      (.region [⟨some 16, none, .move (.slot 1) false⟩,
       ⟨some 17, none, .move (.slot 8) false⟩,
       ⟨some 18, none, .bin false .quo (.slot 17) (.lit (.c (.d (.v (.int .i64 4)))))⟩,
       ⟨some 19, none, .bin false .mul (.slot 18) (.lit (.c (.d (.v (.int .i64 1)))))⟩,
       ⟨some 20, none, .bin false .add (.slot 16) (.slot 19)⟩,
       ⟨some 10, none, .move (.slot 20) true⟩])
      (.seq
       (.region [⟨some 21, none, .move (.slot 1) false⟩,
        ⟨some 22, none, .move (.slot 8) false⟩,
        ⟨some 23, none, .bin false .quo (.slot 22) (.lit (.c (.d (.v (.int .i64 4)))))⟩,
        ⟨some 24, none, .bin false .mul (.slot 23) (.lit (.c (.d (.v (.int .i64 2)))))⟩,
        ⟨some 25, none, .bin false .add (.slot 21) (.slot 24)⟩,
        ⟨some 11, none, .move (.slot 25) true⟩])
       (.seq
        (.region [⟨some 26, none, .move (.slot 1) false⟩,
         ⟨some 27, none, .move (.slot 8) false⟩,
         ⟨some 28, none, .bin false .quo (.slot 27) (.lit (.c (.d (.v (.int .i64 4)))))⟩,
         ⟨some 29, none, .bin false .mul (.slot 28) (.lit (.c (.d (.v (.int .i64 3)))))⟩,
         ⟨some 30, none, .bin false .add (.slot 26) (.slot 29)⟩,
         ⟨some 12, none, .move (.slot 30) true⟩])
        (.seq
         (.seq
          (.region [⟨some 31, none, .move (.slot 8) false⟩,
           ⟨some 32, none, .bin false .geq (.slot 31) (.lit (.c (.d (.v (.int .i64 8)))))⟩])
          (.cond (.slot 32)
           (.seq
            (.seq
             (.region [⟨some 33, none, .move (.slot 8) false⟩,
              ⟨some 34, none, .bin false .geq (.slot 33) (.lit (.c (.d (.v (.int .i64 50)))))⟩])
             (.cond (.slot 34)
              (.seq
               (.region [⟨some 35, none, .move (.slot 0) false⟩,
                ⟨some 36, none, .move (.slot 10) false⟩,
                ⟨some 37, none, .call 108 [.slot 35, .slot 36, .slot 9]⟩,
                ⟨some 10, none, .move (.slot 37) true⟩])
               (.seq
                (.region [⟨some 38, none, .move (.slot 0) false⟩,
                 ⟨some 39, none, .move (.slot 11) false⟩,
                 ⟨some 40, none, .call 108 [.slot 38, .slot 39, .slot 9]⟩,
                 ⟨some 11, none, .move (.slot 40) true⟩])
                (.region [⟨some 41, none, .move (.slot 0) false⟩,
                 ⟨some 42, none, .move (.slot 12) false⟩,
                 ⟨some 43, none, .call 108 [.slot 41, .slot 42, .slot 9]⟩,
                 ⟨some 12, none, .move (.slot 43) true⟩])))
              .skip))
            (.region [⟨some 44, none, .move (.slot 0) false⟩,
             ⟨some 45, none, .move (.slot 10) false⟩,
             ⟨some 46, none, .move (.slot 11) false⟩,
             ⟨some 47, none, .move (.slot 12) false⟩,
             ⟨some 48, none, .call 109 [.slot 44, .slot 45, .slot 46, .slot 47, .slot 9]⟩,
             ⟨some 11, none, .move (.slot 48) true⟩]))
           .skip))
         (.seq
          (.region [⟨some 49, none, .load (.slot 9) false 1 false⟩])
          (.block 0
           (.seq
            (.region [⟨some 52, none, .bin false .eql (.slot 49) (.lit (.c (.d (.v (.int .i64 0)))))⟩,
             ⟨some 51, none, .move (.slot 52) true⟩])
            (.cond (.slot 51)
             (.seq
              (.region [⟨some 53, none, .move (.slot 11) true⟩,
               ⟨some 6, none, .move (.slot 53) true⟩,
               ⟨some 7, none, .move (.lit (.c (.d (.v (.int .i64 1))))) true⟩])
              .ret)
             (.seq
              (.region [⟨some 55, none, .bin false .eql (.slot 49) (.lit (.c (.d (.v (.int .i64 12)))))⟩,
               ⟨some 54, none, .move (.slot 55) true⟩])
              (.cond (.slot 54)
               (.seq
                (.region [⟨some 56, none, .move (.slot 11) true⟩,
                 ⟨some 6, none, .move (.slot 56) true⟩,
                 ⟨some 7, none, .move (.lit (.c (.d (.v (.int .i64 2))))) true⟩])
                .ret)
               (.seq
                (.region [⟨some 50, none, .move (.slot 11) true⟩,
                 ⟨some 6, none, .move (.slot 50) true⟩,
                 ⟨some 7, none, .move (.lit (.c (.d (.v (.int .i64 0))))) true⟩])
                .ret))))))))))))))

theorem F_slices_choosePivotOrdered_uint32 : Fn Try.prog 94 Try.f94 57 [50,53,56] [.t 6, .t 7] c_slices_choosePivotOrdered_uint32 where
  hm := by kernel_rfl
  hf := Try.func94
  hb := by kernel_rfl
  hc := by kernel_rfl
  hts := by kernel_rfl
  hnd := by decide
  hn := Nat.le_of_eq (by kernel_rfl)

def c_slices_reverseRangeOrdered_uint32 : VC :=
  (.seq
   (.region [⟨some 8, none, .move (.slot 1) false⟩,
    ⟨some 6, none, .move (.slot 8) true⟩])
   (.seq
    (.region [⟨some 9, none, .move (.slot 2) false⟩,
     ⟨some 10, none, .bin false .sub (.slot 9) (.lit (.c (.d (.v (.int .i64 1)))))⟩,
     ⟨some 7, none, .move (.slot 10) true⟩])
    (.block 0
     (.loop
      (.seq
       (.seq
        (.region [⟨some 11, none, .move (.slot 6) false⟩,
         ⟨some 12, none, .move (.slot 7) false⟩,
         ⟨some 13, none, .bin false .lss (.slot 11) (.slot 12)⟩])
        (.cond (.slot 13)
         .skip
         (.exit 0)))
       (.block 1
        (.seq
         (.draw [] [⟨some 14, none, .move (.slot 0) false⟩,
          ⟨some 15, none, .move (.slot 6) false⟩,
          ⟨some 16, none, .move (.slot 0) false⟩,
          ⟨some 17, none, .move (.slot 7) false⟩,
          ⟨some 18, none, .move (.slot 0) false⟩,
          ⟨some 19, none, .move (.slot 7) false⟩,
          ⟨some 20, none, .indexAddr (.slot 18) (.slot 19) 1⟩,
          ⟨some 21, none, .load (.slot 20) false 1 false⟩,
          ⟨some 22, none, .move (.slot 0) false⟩,
          ⟨some 23, none, .move (.slot 6) false⟩,
          ⟨some 24, none, .indexAddr (.slot 22) (.slot 23) 1⟩,
          ⟨some 25, none, .load (.slot 24) false 1 false⟩,
          ⟨some 26, none, .indexAddr (.slot 14) (.slot 15) 1⟩,
          ⟨none, none, .store (.slot 26) (.slot 21) 1⟩,
          ⟨some 27, none, .indexAddr (.slot 16) (.slot 17) 1⟩,
          ⟨none, none, .store (.slot 27) (.slot 25) 1⟩])
         (.seq
          (.region [⟨some 28, none, .move (.slot 6) false⟩,
           ⟨some 29, none, .bin false .add (.slot 28) (.lit (.c (.d (.v (.int .i64 1)))))⟩,
           ⟨some 6, none, .move (.slot 29) true⟩])
          (.region [⟨some 30, none, .move (.slot 7) false⟩,
           ⟨some 31, none, .bin false .sub (.slot 30) (.lit (.c (.d (.v (.int .i64 1)))))⟩,
           ⟨some 7, none, .move (.slot 31) true⟩])))))))))

theorem F_slices_reverseRangeOrdered_uint32 : Fn Try.prog 95 Try.f95 32 [] [] c_slices_reverseRangeOrdered_uint32 where
  hm := by kernel_rfl
  hf := Try.func95
  hb := by kernel_rfl
  hc := by kernel_rfl
  hts := by kernel_rfl
  hnd := by decide
  hn := Nat.le_of_eq (by kernel_rfl)

def c_slices_partialInsertionSortOrdered_uint32 : VC :=
  (.seq
   (.region [⟨some 6, none, .move (.lit (.c (.d (.v (.bool false))))) true⟩])
   (.seq
    (.region [⟨some 11, none, .move (.slot 1) false⟩,
     ⟨some 12, none, .bin false .add (.slot 11) (.lit (.c (.d (.v (.int .i64 1)))))⟩,
     ⟨some 7, none, .move (.slot 12) true⟩])
    (.seq
     (.seq
      (.region [⟨some 8, none, .move (.lit (.c (.d (.v (.int .i64 0))))) true⟩])
      (.block 0
       (.loop
        (.seq
         (.seq
          (.region [⟨some 13, none, .move (.slot 8) false⟩,
           ⟨some 14, none, .bin false .lss (.slot 13) (.lit (.c (.d (.v (.int .i64 5)))))⟩])
          (.cond (.slot 14)
           .skip
           (.exit 0)))
         (.seq
          (.block 1
           (.seq
            (.block 2
             (.loop
              (.seq
               (.seq
                (.draw [] [⟨some 17, none, .move (.slot 7) false⟩,
                 ⟨some 18, none, .move (.slot 2) false⟩,
                 ⟨some 19, none, .bin false .lss (.slot 17) (.slot 18)⟩,
                 ⟨some 20, none, .move (.slot 19) false⟩,
                 ⟨some 21, some (20, true), .move (.slot 0) false⟩,
                 ⟨some 22, some (20, true), .move (.slot 7) false⟩,
                 ⟨some 23, some (20, true), .indexAddr (.slot 21) (.slot 22) 1⟩,
                 ⟨some 24, some (20, true), .load (.slot 23) false 1 false⟩,
                 ⟨some 25, some (20, true), .move (.slot 0) false⟩,
                 ⟨some 26, some (20, true), .move (.slot 7) false⟩,
                 ⟨some 27, some (20, true), .bin false .sub (.slot 26) (.lit (.c (.d (.v (.int .i64 1)))))⟩,
                 ⟨some 28, some (20, true), .indexAddr (.slot 25) (.slot 27) 1⟩,
                 ⟨some 29, some (20, true), .load (.slot 28) false 1 false⟩,
                 ⟨some 30, some (20, true), .call 97 [.slot 24, .slot 29]⟩,
                 ⟨some 31, some (20, true), .un .not (.slot 30)⟩,
                 ⟨some 32, none, .pick (.slot 20) (.slot 31) (.lit (.c (.d (.v (.bool false)))))⟩])
                (.cond (.slot 32)
                 .skip
                 (.exit 2)))
               (.block 3
                (.region [⟨some 33, none, .move (.slot 7) false⟩,
                 ⟨some 34, none, .bin false .add (.slot 33) (.lit (.c (.d (.v (.int .i64 1)))))⟩,
                 ⟨some 7, none, .move (.slot 34) true⟩])))))
            (.seq
             (.seq
              (.region [⟨some 35, none, .move (.slot 7) false⟩,
               ⟨some 36, none, .move (.slot 2) false⟩,
               ⟨some 37, none, .bin false .eql (.slot 35) (.slot 36)⟩])
              (.cond (.slot 37)
               (.seq
                (.region [⟨some 6, none, .move (.lit (.c (.d (.v (.bool true))))) true⟩])
                .ret)
               .skip))
             (.seq
              (.seq
               (.region [⟨some 38, none, .move (.slot 2) false⟩,
                ⟨some 39, none, .move (.slot 1) false⟩,
                ⟨some 40, none, .bin false .sub (.slot 38) (.slot 39)⟩,
                ⟨some 41, none, .bin false .lss (.slot 40) (.lit (.c (.d (.v (.int .i64 50)))))⟩])
               (.cond (.slot 41)
                (.seq
                 (.region [⟨some 6, none, .move (.lit (.c (.d (.v (.bool false))))) true⟩])
                 .ret)
                .skip))
              (.seq
               (.draw [] [⟨some 42, none, .move (.slot 0) false⟩,
                ⟨some 43, none, .move (.slot 7) false⟩,
                ⟨some 44, none, .move (.slot 0) false⟩,
                ⟨some 45, none, .move (.slot 7) false⟩,
                ⟨some 46, none, .bin false .sub (.slot 45) (.lit (.c (.d (.v (.int .i64 1)))))⟩,
                ⟨some 47, none, .move (.slot 0) false⟩,
                ⟨some 48, none, .move (.slot 7) false⟩,
                ⟨some 49, none, .bin false .sub (.slot 48) (.lit (.c (.d (.v (.int .i64 1)))))⟩,
                ⟨some 50, none, .indexAddr (.slot 47) (.slot 49) 1⟩,
                ⟨some 51, none, .load (.slot 50) false 1 false⟩,
                ⟨some 52, none, .move (.slot 0) false⟩,
                ⟨some 53, none, .move (.slot 7) false⟩,
                ⟨some 54, none, .indexAddr (.slot 52) (.slot 53) 1⟩,
                ⟨some 55, none, .load (.slot 54) false 1 false⟩,
                ⟨some 56, none, .indexAddr (.slot 42) (.slot 43) 1⟩,
                ⟨none, none, .store (.slot 56) (.slot 51) 1⟩,
                ⟨some 57, none, .indexAddr (.slot 44) (.slot 46) 1⟩,
                ⟨none, none, .store (.slot 57) (.slot 55) 1⟩])
               (.seq
                (.seq
                 (.region [⟨some 58, none, .move (.slot 7) false⟩,
                  ⟨some 59, none, .move (.slot 1) false⟩,
                  ⟨some 60, none, .bin false .sub (.slot 58) (.slot 59)⟩,
                  ⟨some 61, none, .bin false .geq (.slot 60) (.lit (.c (.d (.v (.int .i64 2)))))⟩])
                 (.cond (.slot 61)
                  (.seq
                   (.region [⟨some 62, none, .move (.slot 7) false⟩,
                    ⟨some 63, none, .bin false .sub (.slot 62) (.lit (.c (.d (.v (.int .i64 1)))))⟩,
                    ⟨some 9, none, .move (.slot 63) true⟩])
                   (.block 4
                    (.loop
                     (.seq
                      (.seq
                       (.region [⟨some 64, none, .move (.slot 9) false⟩,
                        ⟨some 65, none, .bin false .geq (.slot 64) (.lit (.c (.d (.v (.int .i64 1)))))⟩])
                       (.cond (.slot 65)
                        .skip
                        (.exit 4)))
                      (.seq
                       (.block 5
                        (.seq
                         (.seq
                          (.draw [] [⟨some 68, none, .move (.slot 0) false⟩,
                           ⟨some 69, none, .move (.slot 9) false⟩,
                           ⟨some 70, none, .indexAddr (.slot 68) (.slot 69) 1⟩,
                           ⟨some 71, none, .load (.slot 70) false 1 false⟩,
                           ⟨some 72, none, .move (.slot 0) false⟩,
                           ⟨some 73, none, .move (.slot 9) false⟩,
                           ⟨some 74, none, .bin false .sub (.slot 73) (.lit (.c (.d (.v (.int .i64 1)))))⟩,
                           ⟨some 75, none, .indexAddr (.slot 72) (.slot 74) 1⟩,
                           ⟨some 76, none, .load (.slot 75) false 1 false⟩,
                           ⟨some 77, none, .call 97 [.slot 71, .slot 76]⟩,
                           ⟨some 78, none, .un .not (.slot 77)⟩])
                          (.cond (.slot 78)
                           (.exit 4)
                           .skip))
                         (.draw [] [⟨some 79, none, .move (.slot 0) false⟩,
                          ⟨some 80, none, .move (.slot 9) false⟩,
                          ⟨some 81, none, .move (.slot 0) false⟩,
                          ⟨some 82, none, .move (.slot 9) false⟩,
                          ⟨some 83, none, .bin false .sub (.slot 82) (.lit (.c (.d (.v (.int .i64 1)))))⟩,
                          ⟨some 84, none, .move (.slot 0) false⟩,
                          ⟨some 85, none, .move (.slot 9) false⟩,
                          ⟨some 86, none, .bin false .sub (.slot 85) (.lit (.c (.d (.v (.int .i64 1)))))⟩,
                          ⟨some 87, none, .indexAddr (.slot 84) (.slot 86) 1⟩,
                          ⟨some 88, none, .load (.slot 87) false 1 false⟩,
                          ⟨some 89, none, .move (.slot 0) false⟩,
                          ⟨some 90, none, .move (.slot 9) false⟩,
                          ⟨some 91, none, .indexAddr (.slot 89) (.slot 90) 1⟩,
                          ⟨some 92, none, .load (.slot 91) false 1 false⟩,
                          ⟨some 93, none, .indexAddr (.slot 79) (.slot 80) 1⟩,
                          ⟨none, none, .store (.slot 93) (.slot 88) 1⟩,
                          ⟨some 94, none, .indexAddr (.slot 81) (.slot 83) 1⟩,
                          ⟨none, none, .store (.slot 94) (.slot 92) 1⟩])))
                       (.region [⟨some 66, none, .move (.slot 9) false⟩,
                        ⟨some 67, none, .bin false .sub (.slot 66) (.lit (.c (.d (.v (.int .i64 1)))))⟩,
                        ⟨some 9, none, .move (.slot 67) true⟩]))))))
                  .skip))
                (.seq
                 (.region [⟨some 95, none, .move (.slot 2) false⟩,
                  ⟨some 96, none, .move (.slot 7) false⟩,
                  ⟨some 97, none, .bin false .sub (.slot 95) (.slot 96)⟩,
                  ⟨some 98, none, .bin false .geq (.slot 97) (.lit (.c (.d (.v (.int .i64 2)))))⟩])
                 (.cond (.slot 98)
                  (.seq
                   (.region [⟨some 99, none, .move (.slot 7) false⟩,
                    ⟨some 100, none, .bin false .add (.slot 99) (.lit (.c (.d (.v (.int .i64 1)))))⟩,
                    ⟨some 10, none, .move (.slot 100) true⟩])
                   (.block 6
                    (.loop
                     (.seq
                      (.seq
                       (.region [⟨some 101, none, .move (.slot 10) false⟩,
                        ⟨some 102, none, .move (.slot 2) false⟩,
                        ⟨some 103, none, .bin false .lss (.slot 101) (.slot 102)⟩])
                       (.cond (.slot 103)
                        .skip
                        (.exit 6)))
                      (.seq
                       (.block 7
                        (.seq
                         (.seq
                          (.draw [] [⟨some 106, none, .move (.slot 0) false⟩,
                           ⟨some 107, none, .move (.slot 10) false⟩,
                           ⟨some 108, none, .indexAddr (.slot 106) (.slot 107) 1⟩,
                           ⟨some 109, none, .load (.slot 108) false 1 false⟩,
                           ⟨some 110, none, .move (.slot 0) false⟩,
                           ⟨some 111, none, .move (.slot 10) false⟩,
                           ⟨some 112, none, .bin false .sub (.slot 111) (.lit (.c (.d (.v (.int .i64 1)))))⟩,
                           ⟨some 113, none, .indexAddr (.slot 110) (.slot 112) 1⟩,
                           ⟨some 114, none, .load (.slot 113) false 1 false⟩,
                           ⟨some 115, none, .call 97 [.slot 109, .slot 114]⟩,
                           ⟨some 116, none, .un .not (.slot 115)⟩])
                          (.cond (.slot 116)
                           (.exit 6)
                           .skip))
                         (.draw [] [⟨some 117, none, .move (.slot 0) false⟩,
                          ⟨some 118, none, .move (.slot 10) false⟩,
                          ⟨some 119, none, .move (.slot 0) false⟩,
                          ⟨some 120, none, .move (.slot 10) false⟩,
                          ⟨some 121, none, .bin false .sub (.slot 120) (.lit (.c (.d (.v (.int .i64 1)))))⟩,
                          ⟨some 122, none, .move (.slot 0) false⟩,
                          ⟨some 123, none, .move (.slot 10) false⟩,
                          ⟨some 124, none, .bin false .sub (.slot 123) (.lit (.c (.d (.v (.int .i64 1)))))⟩,
                          ⟨some 125, none, .indexAddr (.slot 122) (.slot 124) 1⟩,
                          ⟨some 126, none, .load (.slot 125) false 1 false⟩,
                          ⟨some 127, none, .move (.slot 0) false⟩,
                          ⟨some 128, none, .move (.slot 10) false⟩,
                          ⟨some 129, none, .indexAddr (.slot 127) (.slot 128) 1⟩,
                          ⟨some 130, none, .load (.slot 129) false 1 false⟩,
                          ⟨some 131, none, .indexAddr (.slot 117) (.slot 118) 1⟩,
                          ⟨none, none, .store (.slot 131) (.slot 126) 1⟩,
                          ⟨some 132, none, .indexAddr (.slot 119) (.slot 121) 1⟩,
                          ⟨none, none, .store (.slot 132) (.slot 130) 1⟩])))
                       (.region [⟨some 104, none, .move (.slot 10) false⟩,
                        ⟨some 105, none, .bin false .add (.slot 104) (.lit (.c (.d (.v (.int .i64 1)))))⟩,
                        ⟨some 10, none, .move (.slot 105) true⟩]))))))
                  .skip))))))))
          (.region [⟨some 15, none, .move (.slot 8) false⟩,
           ⟨some 16, none, .bin false .add (.slot 15) (.lit (.c (.d (.v (.int .i64 1)))))⟩,
           ⟨some 8, none, .move (.slot 16) true⟩]))))))
     (.seq
      (.region [⟨some 6, none, .move (.lit (.c (.d (.v (.bool false))))) true⟩])
      .ret))))

theorem F_slices_partialInsertionSortOrdered_uint32 : Fn Try.prog 96 Try.f96 133 [] [.t 6] c_slices_partialInsertionSortOrdered_uint32 where
  hm := by kernel_rfl
  hf := Try.func96
  hb := by kernel_rfl
  hc := by kernel_rfl
  hts := by kernel_rfl
  hnd := by decide
  hn := Nat.le_of_eq (by kernel_rfl)

def c_cmp_Less_uint32 : VC :=
  (.seq
   (.region [⟨some 4, none, .move (.lit (.c (.d (.v (.bool false))))) true⟩])
   (.seq
    (.region [⟨some 5, none, .move (.slot 0) false⟩,
     ⟨some 6, none, .call 110 [.slot 5]⟩,
     ⟨some 7, none, .move (.slot 6) false⟩,
     ⟨some 8, some (7, true), .move (.slot 1) false⟩,
     ⟨some 9, some (7, true), .call 110 [.slot 8]⟩,
     ⟨some 10, some (7, true), .un .not (.slot 9)⟩,
     ⟨some 11, none, .pick (.slot 7) (.slot 10) (.lit (.c (.d (.v (.bool false)))))⟩,
     ⟨some 12, none, .move (.slot 11) false⟩,
     ⟨some 13, some (12, false), .move (.slot 0) false⟩,
     ⟨some 14, some (12, false), .move (.slot 1) false⟩,
     ⟨some 15, some (12, false), .bin false .lss (.slot 13) (.slot 14)⟩,
     ⟨some 16, none, .pick (.slot 12) (.lit (.c (.d (.v (.bool true))))) (.slot 15)⟩,
     ⟨some 4, none, .move (.slot 16) true⟩])
    .ret))

theorem F_cmp_Less_uint32 : Fn Try.prog 97 Try.f97 17 [] [.t 4] c_cmp_Less_uint32 where
  hm := by kernel_rfl
  hf := Try.func97
  hb := by kernel_rfl
  hc := by kernel_rfl
  hts := by kernel_rfl
  hnd := by decide
  hn := Nat.le_of_eq (by kernel_rfl)

def c_slices_partitionEqualOrdered_uint32 : VC :=
  (.seq
   (.region [⟨some 8, none, .move (.lit (.c (.d (.v (.int .i64 0))))) true⟩])
   (.seq
    (.draw [] [⟨some 11, none, .move (.slot 0) false⟩,
     ⟨some 12, none, .move (.slot 1) false⟩,
     ⟨some 13, none, .move (.slot 0) false⟩,
     ⟨some 14, none, .move (.slot 3) false⟩,
     ⟨some 15, none, .move (.slot 0) false⟩,
     ⟨some 16, none, .move (.slot 3) false⟩,
     ⟨some 17, none, .indexAddr (.slot 15) (.slot 16) 1⟩,
     ⟨some 18, none, .load (.slot 17) false 1 false⟩,
     ⟨some 19, none, .move (.slot 0) false⟩,
     ⟨some 20, none, .move (.slot 1) false⟩,
     ⟨some 21, none, .indexAddr (.slot 19) (.slot 20) 1⟩,
     ⟨some 22, none, .load (.slot 21) false 1 false⟩,
     ⟨some 23, none, .indexAddr (.slot 11) (.slot 12) 1⟩,
     ⟨none, none, .store (.slot 23) (.slot 18) 1⟩,
     ⟨some 24, none, .indexAddr (.slot 13) (.slot 14) 1⟩,
     ⟨none, none, .store (.slot 24) (.slot 22) 1⟩])
    (.seq
     (.region [⟨some 25, none, .move (.slot 1) false⟩,
      ⟨some 26, none, .bin false .add (.slot 25) (.lit (.c (.d (.v (.int .i64 1)))))⟩,
      ⟨some 27, none, .move (.slot 2) false⟩,
      ⟨some 28, none, .bin false .sub (.slot 27) (.lit (.c (.d (.v (.int .i64 1)))))⟩,
      ⟨some 9, none, .move (.slot 26) true⟩,
      ⟨some 10, none, .move (.slot 28) true⟩])
     (.seq
      (.block 0
       (.loop
        (.block 1
         (.seq
          (.block 2
           (.loop
            (.seq
             (.seq
              (.draw [] [⟨some 29, none, .move (.slot 9) false⟩,
               ⟨some 30, none, .move (.slot 10) false⟩,
               ⟨some 31, none, .bin false .leq (.slot 29) (.slot 30)⟩,
               ⟨some 32, none, .move (.slot 31) false⟩,
               ⟨some 33, some (32, true), .move (.slot 0) false⟩,
               ⟨some 34, some (32, true), .move (.slot 1) false⟩,
               ⟨some 35, some (32, true), .indexAddr (.slot 33) (.slot 34) 1⟩,
               ⟨some 36, some (32, true), .load (.slot 35) false 1 false⟩,
               ⟨some 37, some (32, true), .move (.slot 0) false⟩,
               ⟨some 38, some (32, true), .move (.slot 9) false⟩,
               ⟨some 39, some (32, true), .indexAddr (.slot 37) (.slot 38) 1⟩,
               ⟨some 40, some (32, true), .load (.slot 39) false 1 false⟩,
               ⟨some 41, some (32, true), .call 97 [.slot 36, .slot 40]⟩,
               ⟨some 42, some (32, true), .un .not (.slot 41)⟩,
               ⟨some 43, none, .pick (.slot 32) (.slot 42) (.lit (.c (.d (.v (.bool false)))))⟩])
              (.cond (.slot 43)
               .skip
               (.exit 2)))
             (.block 3
              (.region [⟨some 44, none, .move (.slot 9) false⟩,
               ⟨some 45, none, .bin false .add (.slot 44) (.lit (.c (.d (.v (.int .i64 1)))))⟩,
               ⟨some 9, none, .move (.slot 45) true⟩])))))
          (.seq
           (.block 4
            (.loop
             (.seq
              (.seq
               (.draw [] [⟨some 46, none, .move (.slot 9) false⟩,
                ⟨some 47, none, .move (.slot 10) false⟩,
                ⟨some 48, none, .bin false .leq (.slot 46) (.slot 47)⟩,
                ⟨some 49, none, .move (.slot 48) false⟩,
                ⟨some 50, some (49, true), .move (.slot 0) false⟩,
                ⟨some 51, some (49, true), .move (.slot 1) false⟩,
                ⟨some 52, some (49, true), .indexAddr (.slot 50) (.slot 51) 1⟩,
                ⟨some 53, some (49, true), .load (.slot 52) false 1 false⟩,
                ⟨some 54, some (49, true), .move (.slot 0) false⟩,
                ⟨some 55, some (49, true), .move (.slot 10) false⟩,
                ⟨some 56, some (49, true), .indexAddr (.slot 54) (.slot 55) 1⟩,
                ⟨some 57, some (49, true), .load (.slot 56) false 1 false⟩,
                ⟨some 58, some (49, true), .call 97 [.slot 53, .slot 57]⟩,
                ⟨some 59, none, .pick (.slot 49) (.slot 58) (.lit (.c (.d (.v (.bool false)))))⟩])
               (.cond (.slot 59)
                .skip
                (.exit 4)))
              (.block 5
               (.region [⟨some 60, none, .move (.slot 10) false⟩,
                ⟨some 61, none, .bin false .sub (.slot 60) (.lit (.c (.d (.v (.int .i64 1)))))⟩,
                ⟨some 10, none, .move (.slot 61) true⟩])))))
           (.seq
            (.seq
             (.region [⟨some 62, none, .move (.slot 9) false⟩,
              ⟨some 63, none, .move (.slot 10) false⟩,
              ⟨some 64, none, .bin false .gtr (.slot 62) (.slot 63)⟩])
             (.cond (.slot 64)
              (.exit 0)
              .skip))
            (.seq
             (.draw [] [⟨some 65, none, .move (.slot 0) false⟩,
              ⟨some 66, none, .move (.slot 9) false⟩,
              ⟨some 67, none, .move (.slot 0) false⟩,
              ⟨some 68, none, .move (.slot 10) false⟩,
              ⟨some 69, none, .move (.slot 0) false⟩,
              ⟨some 70, none, .move (.slot 10) false⟩,
              ⟨some 71, none, .indexAddr (.slot 69) (.slot 70) 1⟩,
              ⟨some 72, none, .load (.slot 71) false 1 false⟩,
              ⟨some 73, none, .move (.slot 0) false⟩,
              ⟨some 74, none, .move (.slot 9) false⟩,
              ⟨some 75, none, .indexAddr (.slot 73) (.slot 74) 1⟩,
              ⟨some 76, none, .load (.slot 75) false 1 false⟩,
              ⟨some 77, none, .indexAddr (.slot 65) (.slot 66) 1⟩,
              ⟨none, none, .store (.slot 77) (.slot 72) 1⟩,
              ⟨some 78, none, .indexAddr (.slot 67) (.slot 68) 1⟩,
              ⟨none, none, .store (.slot 78) (.slot 76) 1⟩])
             (.seq
              (.region [⟨some 79, none, .move (.slot 9) false⟩,
               ⟨some 80, none, .bin false .add (.slot 79) (.lit (.c (.d (.v (.int .i64 1)))))⟩,
               ⟨some 9, none, .move (.slot 80) true⟩])
              (.region [⟨some 81, none, .move (.slot 10) false⟩,
               ⟨some 82, none, .bin false .sub (.slot 81) (.lit (.c (.d (.v (.int .i64 1)))))⟩,
               ⟨some 10, none, .move (.slot 82) true⟩])))))))))
      (.seq
       (.region [⟨some 83, none, .move (.slot 9) true⟩,
        ⟨some 8, none, .move (.slot 83) true⟩])
       .ret)))))

theorem F_slices_partitionEqualOrdered_uint32 : Fn Try.prog 98 Try.f98 84 [83] [.t 8] c_slices_partitionEqualOrdered_uint32 where
  hm := by kernel_rfl
  hf := Try.func98
  hb := by kernel_rfl
  hc := by kernel_rfl
  hts := by kernel_rfl
  hnd := by decide
  hn := Nat.le_of_eq (by kernel_rfl)

def c_slices_partitionOrdered_uint32 : VC :=
  (.seq
   (.region [⟨some 8, none, .move (.lit (.c (.d (.v (.int .i64 0))))) true⟩,
    ⟨some 9, none, .move (.lit (.c (.d (.v (.bool false))))) true⟩])
   (.seq
    (.draw [] [⟨some 12, none, .move (.slot 0) false⟩,
     ⟨some 13, none, .move (.slot 1) false⟩,
     ⟨some 14, none, .move (.slot 0) false⟩,
     ⟨some 15, none, .move (.slot 3) false⟩,
     ⟨some 16, none, .move (.slot 0) false⟩,
     ⟨some 17, none, .move (.slot 3) false⟩,
     ⟨some 18, none, .indexAddr (.slot 16) (.slot 17) 1⟩,
     ⟨some 19, none, .load (.slot 18) false 1 false⟩,
     ⟨some 20, none, .move (.slot 0) false⟩,
     ⟨some 21, none, .move (.slot 1) false⟩,
     ⟨some 22, none, .indexAddr (.slot 20) (.slot 21) 1⟩,
     ⟨some 23, none, .load (.slot 22) false 1 false⟩,
     ⟨some 24, none, .indexAddr (.slot 12) (.slot 13) 1⟩,
     ⟨none, none, .store (.slot 24) (.slot 19) 1⟩,
     ⟨some 25, none, .indexAddr (.slot 14) (.slot 15) 1⟩,
     ⟨none, none, .store (.slot 25) (.slot 23) 1⟩])
    (.seq
     (.region [⟨some 26, none, .move (.slot 1) false⟩,
      ⟨some 27, none, .bin false .add (.slot 26) (.lit (.c (.d (.v (.int .i64 1)))))⟩,
      ⟨some 28, none, .move (.slot 2) false⟩,
      ⟨some 29, none, .bin false .sub (.slot 28) (.lit (.c (.d (.v (.int .i64 1)))))⟩,
      ⟨some 10, none, .move (.slot 27) true⟩,
      ⟨some 11, none, .move (.slot 29) true⟩])
     (.seq
      (.block 0
       (.loop
        (.seq
         (.seq
          (.draw [] [⟨some 30, none, .move (.slot 10) false⟩,
           ⟨some 31, none, .move (.slot 11) false⟩,
           ⟨some 32, none, .bin false .leq (.slot 30) (.slot 31)⟩,
           ⟨some 33, none, .move (.slot 32) false⟩,
           ⟨some 34, some (33, true), .move (.slot 0) false⟩,
           ⟨some 35, some (33, true), .move (.slot 10) false⟩,
           ⟨some 36, some (33, true), .indexAddr (.slot 34) (.slot 35) 1⟩,
           ⟨some 37, some (33, true), .load (.slot 36) false 1 false⟩,
           ⟨some 38, some (33, true), .move (.slot 0) false⟩,
           ⟨some 39, some (33, true), .move (.slot 1) false⟩,
           ⟨some 40, some (33, true), .indexAddr (.slot 38) (.slot 39) 1⟩,
           ⟨some 41, some (33, true), .load (.slot 40) false 1 false⟩,
           ⟨some 42, some (33, true), .call 97 [.slot 37, .slot 41]⟩,
           ⟨some 43, none, .pick (.slot 33) (.slot 42) (.lit (.c (.d (.v (.bool false)))))⟩])
          (.cond (.slot 43)
           .skip
           (.exit 0)))
         (.block 1
          (.region [⟨some 44, none, .move (.slot 10) false⟩,
           ⟨some 45, none, .bin false .add (.slot 44) (.lit (.c (.d (.v (.int .i64 1)))))⟩,
           ⟨some 10, none, .move (.slot 45) true⟩])))))
      (.seq
       (.block 2
        (.loop
         (.seq
          (.seq
           (.draw [] [⟨some 46, none, .move (.slot 10) false⟩,
            ⟨some 47, none, .move (.slot 11) false⟩,
            ⟨some 48, none, .bin false .leq (.slot 46) (.slot 47)⟩,
            ⟨some 49, none, .move (.slot 48) false⟩,
            ⟨some 50, some (49, true), .move (.slot 0) false⟩,
            ⟨some 51, some (49, true), .move (.slot 11) false⟩,
            ⟨some 52, some (49, true), .indexAddr (.slot 50) (.slot 51) 1⟩,
            ⟨some 53, some (49, true), .load (.slot 52) false 1 false⟩,
            ⟨some 54, some (49, true), .move (.slot 0) false⟩,
            ⟨some 55, some (49, true), .move (.slot 1) false⟩,
            ⟨some 56, some (49, true), .indexAddr (.slot 54) (.slot 55) 1⟩,
            ⟨some 57, some (49, true), .load (.slot 56) false 1 false⟩,
            ⟨some 58, some (49, true), .call 97 [.slot 53, .slot 57]⟩,
            ⟨some 59, some (49, true), .un .not (.slot 58)⟩,
            ⟨some 60, none, .pick (.slot 49) (.slot 59) (.lit (.c (.d (.v (.bool false)))))⟩])
           (.cond (.slot 60)
            .skip
            (.exit 2)))
          (.block 3
           (.region [⟨some 61, none, .move (.slot 11) false⟩,
            ⟨some 62, none, .bin false .sub (.slot 61) (.lit (.c (.d (.v (.int .i64 1)))))⟩,
            ⟨some 11, none, .move (.slot 62) true⟩])))))
       (.seq
        (.seq
         (.region [⟨some 63, none, .move (.slot 10) false⟩,
          ⟨some 64, none, .move (.slot 11) false⟩,
          ⟨some 65, none, .bin false .gtr (.slot 63) (.slot 64)⟩])
         (.cond (.slot 65)
          (.seq
           (.draw [] [⟨some 66, none, .move (.slot 0) false⟩,
            ⟨some 67, none, .move (.slot 11) false⟩,
            ⟨some 68, none, .move (.slot 0) false⟩,
            ⟨some 69, none, .move (.slot 1) false⟩,
            ⟨some 70, none, .move (.slot 0) false⟩,
            ⟨some 71, none, .move (.slot 1) false⟩,
            ⟨some 72, none, .indexAddr (.slot 70) (.slot 71) 1⟩,
            ⟨some 73, none, .load (.slot 72) false 1 false⟩,
            ⟨some 74, none, .move (.slot 0) false⟩,
            ⟨some 75, none, .move (.slot 11) false⟩,
            ⟨some 76, none, .indexAddr (.slot 74) (.slot 75) 1⟩,
            ⟨some 77, none, .load (.slot 76) false 1 false⟩,
            ⟨some 78, none, .indexAddr (.slot 66) (.slot 67) 1⟩,
            ⟨none, none, .store (.slot 78) (.slot 73) 1⟩,
            ⟨some 79, none, .indexAddr (.slot 68) (.slot 69) 1⟩,
            ⟨none, none, .store (.slot 79) (.slot 77) 1⟩])
           (.seq
            (.region [⟨some 80, none, .move (.slot 11) true⟩,
             ⟨some 8, none, .move (.slot 80) true⟩,
             ⟨some 9, none, .move (.lit (.c (.d (.v (.bool true))))) true⟩])
            .ret))
          .skip))
        (.seq
         (.draw [] [⟨some 81, none, .move (.slot 0) false⟩,
          ⟨some 82, none, .move (.slot 10) false⟩,
          ⟨some 83, none, .move (.slot 0) false⟩,
          ⟨some 84, none, .move (.slot 11) false⟩,
          ⟨some 85, none, .move (.slot 0) false⟩,
          ⟨some 86, none, .move (.slot 11) false⟩,
          ⟨some 87, none, .indexAddr (.slot 85) (.slot 86) 1⟩,
          ⟨some 88, none, .load (.slot 87) false 1 false⟩,
          ⟨some 89, none, .move (.slot 0) false⟩,
          ⟨some 90, none, .move (.slot 10) false⟩,
          ⟨some 91, none, .indexAddr (.slot 89) (.slot 90) 1⟩,
          ⟨some 92, none, .load (.slot 91) false 1 false⟩,
          ⟨some 93, none, .indexAddr (.slot 81) (.slot 82) 1⟩,
          ⟨none, none, .store (.slot 93) (.slot 88) 1⟩,
          ⟨some 94, none, .indexAddr (.slot 83) (.slot 84) 1⟩,
          ⟨none, none, .store (.slot 94) (.slot 92) 1⟩])
         (.seq
          (.region [⟨some 95, none, .move (.slot 10) false⟩,
           ⟨some 96, none, .bin false .add (.slot 95) (.lit (.c (.d (.v (.int .i64 1)))))⟩,
           ⟨some 10, none, .move (.slot 96) true⟩])
          (.seq
           (.region [⟨some 97, none, .move (.slot 11) false⟩,
            ⟨some 98, none, .bin false .sub (.slot 97) (.lit (.c (.d (.v (.int .i64 1)))))⟩,
            ⟨some 11, none, .move (.slot 98) true⟩])
           (.seq
            (.block 4
             (.loop
              (.block 5
               (.seq
                (.block 6
                 (.loop
                  (.seq
                   (.seq
                    (.draw [] [⟨some 99, none, .move (.slot 10) false⟩,
                     ⟨some 100, none, .move (.slot 11) false⟩,
                     ⟨some 101, none, .bin false .leq (.slot 99) (.slot 100)⟩,
                     ⟨some 102, none, .move (.slot 101) false⟩,
                     ⟨some 103, some (102, true), .move (.slot 0) false⟩,
                     ⟨some 104, some (102, true), .move (.slot 10) false⟩,
                     ⟨some 105, some (102, true), .indexAddr (.slot 103) (.slot 104) 1⟩,
                     ⟨some 106, some (102, true), .load (.slot 105) false 1 false⟩,
                     ⟨some 107, some (102, true), .move (.slot 0) false⟩,
                     ⟨some 108, some (102, true), .move (.slot 1) false⟩,
                     ⟨some 109, some (102, true), .indexAddr (.slot 107) (.slot 108) 1⟩,
                     ⟨some 110, some (102, true), .load (.slot 109) false 1 false⟩,
                     ⟨some 111, some (102, true), .call 97 [.slot 106, .slot 110]⟩,
                     ⟨some 112, none, .pick (.slot 102) (.slot 111) (.lit (.c (.d (.v (.bool false)))))⟩])
                    (.cond (.slot 112)
                     .skip
                     (.exit 6)))
                   (.block 7
                    (.region [⟨some 113, none, .move (.slot 10) false⟩,
                     ⟨some 114, none, .bin false .add (.slot 113) (.lit (.c (.d (.v (.int .i64 1)))))⟩,
                     ⟨some 10, none, .move (.slot 114) true⟩])))))
                (.seq
                 (.block 8
                  (.loop
                   (.seq
                    (.seq
                     (.draw [] [⟨some 115, none, .move (.slot 10) false⟩,
                      ⟨some 116, none, .move (.slot 11) false⟩,
                      ⟨some 117, none, .bin false .leq (.slot 115) (.slot 116)⟩,
                      ⟨some 118, none, .move (.slot 117) false⟩,
                      ⟨some 119, some (118, true), .move (.slot 0) false⟩,
                      ⟨some 120, some (118, true), .move (.slot 11) false⟩,
                      ⟨some 121, some (118, true), .indexAddr (.slot 119) (.slot 120) 1⟩,
                      ⟨some 122, some (118, true), .load (.slot 121) false 1 false⟩,
                      ⟨some 123, some (118, true), .move (.slot 0) false⟩,
                      ⟨some 124, some (118, true), .move (.slot 1) false⟩,
                      ⟨some 125, some (118, true), .indexAddr (.slot 123) (.slot 124) 1⟩,
                      ⟨some 126, some (118, true), .load (.slot 125) false 1 false⟩,
                      ⟨some 127, some (118, true), .call 97 [.slot 122, .slot 126]⟩,
                      ⟨some 128, some (118, true), .un .not (.slot 127)⟩,
                      ⟨some 129, none, .pick (.slot 118) (.slot 128) (.lit (.c (.d (.v (.bool false)))))⟩])
                     (.cond (.slot 129)
                      .skip
                      (.exit 8)))
                    (.block 9
                     (.region [⟨some 130, none, .move (.slot 11) false⟩,
                      ⟨some 131, none, .bin false .sub (.slot 130) (.lit (.c (.d (.v (.int .i64 1)))))⟩,
                      ⟨some 11, none, .move (.slot 131) true⟩])))))
                 (.seq
                  (.seq
                   (.region [⟨some 132, none, .move (.slot 10) false⟩,
                    ⟨some 133, none, .move (.slot 11) false⟩,
                    ⟨some 134, none, .bin false .gtr (.slot 132) (.slot 133)⟩])
                   (.cond (.slot 134)
                    (.exit 4)
                    .skip))
                  (.seq
                   (.draw [] [⟨some 135, none, .move (.slot 0) false⟩,
                    ⟨some 136, none, .move (.slot 10) false⟩,
                    ⟨some 137, none, .move (.slot 0) false⟩,
                    ⟨some 138, none, .move (.slot 11) false⟩,
                    ⟨some 139, none, .move (.slot 0) false⟩,
                    ⟨some 140, none, .move (.slot 11) false⟩,
                    ⟨some 141, none, .indexAddr (.slot 139) (.slot 140) 1⟩,
                    ⟨some 142, none, .load (.slot 141) false 1 false⟩,
                    ⟨some 143, none, .move (.slot 0) false⟩,
                    ⟨some 144, none, .move (.slot 10) false⟩,
                    ⟨some 145, none, .indexAddr (.slot 143) (.slot 144) 1⟩,
                    ⟨some 146, none, .load (.slot 145) false 1 false⟩,
                    ⟨some 147, none, .indexAddr (.slot 135) (.slot 136) 1⟩,
                    ⟨none, none, .store (.slot 147) (.slot 142) 1⟩,
                    ⟨some 148, none, .indexAddr (.slot 137) (.slot 138) 1⟩,
                    ⟨none, none, .store (.slot 148) (.slot 146) 1⟩])
                   (.seq
                    (.region [⟨some 149, none, .move (.slot 10) false⟩,
                     ⟨some 150, none, .bin false .add (.slot 149) (.lit (.c (.d (.v (.int .i64 1)))))⟩,
                     ⟨some 10, none, .move (.slot 150) true⟩])
                    (.region [⟨some 151, none, .move (.slot 11) false⟩,
                     ⟨some 152, none, .bin false .sub (.slot 151) (.lit (.c (.d (.v (.int .i64 1)))))⟩,
                     ⟨some 11, none, .move (.slot 152) true⟩])))))))))
            (.seq
             (.draw [] [⟨some 153, none, .move (.slot 0) false⟩,
              ⟨some 154, none, .move (.slot 11) false⟩,
              ⟨some 155, none, .move (.slot 0) false⟩,
              ⟨some 156, none, .move (.slot 1) false⟩,
              ⟨some 157, none, .move (.slot 0) false⟩,
              ⟨some 158, none, .move (.slot 1) false⟩,
              ⟨some 159, none, .indexAddr (.slot 157) (.slot 158) 1⟩,
              ⟨some 160, none, .load (.slot 159) false 1 false⟩,
              ⟨some 161, none, .move (.slot 0) false⟩,
              ⟨some 162, none, .move (.slot 11) false⟩,
              ⟨some 163, none, .indexAddr (.slot 161) (.slot 162) 1⟩,
              ⟨some 164, none, .load (.slot 163) false 1 false⟩,
              ⟨some 165, none, .indexAddr (.slot 153) (.slot 154) 1⟩,
              ⟨none, none, .store (.slot 165) (.slot 160) 1⟩,
              ⟨some 166, none, .indexAddr (.slot 155) (.slot 156) 1⟩,
              ⟨none, none, .store (.slot 166) (.slot 164) 1⟩])
             (.seq
              (.region [⟨some 167, none, .move (.slot 11) true⟩,
               ⟨some 8, none, .move (.slot 167) true⟩,
               ⟨some 9, none, .move (.lit (.c (.d (.v (.bool false))))) true⟩])
              .ret))))))))))))

theorem F_slices_partitionOrdered_uint32 : Fn Try.prog 99 Try.f99 168 [80,167] [.t 8, .t 9] c_slices_partitionOrdered_uint32 where
  hm := by kernel_rfl
  hf := Try.func99
  hb := by kernel_rfl
  hc := by kernel_rfl
  hts := by kernel_rfl
  hnd := by decide
  hn := Nat.le_of_eq (by kernel_rfl)

def c_math_bits_Len32 : VC :=
  (.seq
   (.region [⟨some 2, none, .move (.lit (.c (.d (.v (.int .i64 0))))) true⟩])
   (.seq
    (.seq
     (.region [⟨some 3, none, .move (.slot 0) false⟩,
      ⟨some 4, none, .bin false .geq (.slot 3) (.lit (.c (.d (.v (.int .u32 65536)))))⟩])
     (.cond (.slot 4)
      (.seq
       (.region [⟨some 5, none, .move (.slot 0) false⟩,
        ⟨some 6, none, .bin false .shr (.slot 5) (.lit (.c (.d (.v (.int .u64 16)))))⟩,
        ⟨some 0, none, .move (.slot 6) true⟩])
       (.region [⟨some 2, none, .move (.lit (.c (.d (.v (.int .i64 16))))) true⟩]))
      .skip))
    (.seq
     (.seq
      (.region [⟨some 7, none, .move (.slot 0) false⟩,
       ⟨some 8, none, .bin false .geq (.slot 7) (.lit (.c (.d (.v (.int .u32 256)))))⟩])
      (.cond (.slot 8)
       (.seq
        (.region [⟨some 9, none, .move (.slot 0) false⟩,
         ⟨some 10, none, .bin false .shr (.slot 9) (.lit (.c (.d (.v (.int .u64 8)))))⟩,
         ⟨some 0, none, .move (.slot 10) true⟩])
        (.region [⟨some 11, none, .move (.slot 2) false⟩,
         ⟨some 12, none, .bin false .add (.slot 11) (.lit (.c (.d (.v (.int .i64 8)))))⟩,
         ⟨some 2, none, .move (.slot 12) true⟩]))
       .skip))
     (.seq
      (.region [⟨some 13, none, .move (.slot 2) false⟩,
       ⟨some 14, none, .move (.slot 0) false⟩,
       ⟨some 15, none, .conv .u8 (.slot 14)⟩,
       ⟨some 16, none, .indexStr (.lit (.c (.d (.v (.string ⟨#[0, 1, 2, 2, 3, 3, 3, 3, 4, 4, 4, 4, 4, 4, 4, 4, 5, 5, 5, 5, 5, 5, 5, 5, 5, 5, 5, 5, 5, 5, 5, 5, 6, 6, 6, 6, 6, 6, 6, 6, 6, 6, 6, 6, 6, 6, 6, 6, 6, 6, 6, 6, 6, 6, 6, 6, 6, 6, 6, 6, 6, 6, 6, 6, 7, 7, 7, 7, 7, 7, 7, 7, 7, 7, 7, 7, 7, 7, 7, 7, 7, 7, 7, 7, 7, 7, 7, 7, 7, 7, 7, 7, 7, 7, 7, 7, 7, 7, 7, 7, 7, 7, 7, 7, 7, 7, 7, 7, 7, 7, 7, 7, 7, 7, 7, 7, 7, 7, 7, 7, 7, 7, 7, 7, 7, 7, 7, 7, 8, 8, 8, 8, 8, 8, 8, 8, 8, 8, 8, 8, 8, 8, 8, 8, 8, 8, 8, 8, 8, 8, 8, 8, 8, 8, 8, 8, 8, 8, 8, 8, 8, 8, 8, 8, 8, 8, 8, 8, 8, 8, 8, 8, 8, 8, 8, 8, 8, 8, 8, 8, 8, 8, 8, 8, 8, 8, 8, 8, 8, 8, 8, 8, 8, 8, 8, 8, 8, 8, 8, 8, 8, 8, 8, 8, 8, 8, 8, 8, 8, 8, 8, 8, 8, 8, 8, 8, 8, 8, 8, 8, 8, 8, 8, 8, 8, 8, 8, 8, 8, 8, 8, 8, 8, 8, 8, 8, 8, 8, 8, 8, 8, 8, 8, 8, 8, 8, 8, 8, 8, 8, 8, 8, 8, 8, 8, 8]⟩))))) (.slot 15)⟩,
       ⟨some 17, none, .conv .i64 (.slot 16)⟩,
       ⟨some 18, none, .bin false .add (.slot 13) (.slot 17)⟩,
       ⟨some 2, none, .move (.slot 18) true⟩])
      .ret))))

theorem F_math_bits_Len32 : Fn Try.prog 100 Try.f100 19 [] [.t 2] c_math_bits_Len32 where
  hm := by kernel_rfl
  hf := Try.func100
  hb := by kernel_rfl
  hc := by kernel_rfl
  hts := by kernel_rfl
  hnd := by decide
  hn := Nat.le_of_eq (by kernel_rfl)

def c_math_bits_Len64 : VC :=
  (.seq
   (.region [⟨some 2, none, .move (.lit (.c (.d (.v (.int .i64 0))))) true⟩])
   (.seq
    (.seq
     (.region [⟨some 3, none, .move (.slot 0) false⟩,
      ⟨some 4, none, .bin false .geq (.slot 3) (.lit (.c (.d (.v (.int .u64 4294967296)))))⟩])
     (.cond (.slot 4)
      (.seq
       (.region [⟨some 5, none, .move (.slot 0) false⟩,
        ⟨some 6, none, .bin false .shr (.slot 5) (.lit (.c (.d (.v (.int .u64 32)))))⟩,
        ⟨some 0, none, .move (.slot 6) true⟩])
       (.region [⟨some 2, none, .move (.lit (.c (.d (.v (.int .i64 32))))) true⟩]))
      .skip))
    (.seq
     (.seq
      (.region [⟨some 7, none, .move (.slot 0) false⟩,
       ⟨some 8, none, .bin false .geq (.slot 7) (.lit (.c (.d (.v (.int .u64 65536)))))⟩])
      (.cond (.slot 8)
       (.seq
        (.region [⟨some 9, none, .move (.slot 0) false⟩,
         ⟨some 10, none, .bin false .shr (.slot 9) (.lit (.c (.d (.v (.int .u64 16)))))⟩,
         ⟨some 0, none, .move (.slot 10) true⟩])
        (.region [⟨some 11, none, .move (.slot 2) false⟩,
         ⟨some 12, none, .bin false .add (.slot 11) (.lit (.c (.d (.v (.int .i64 16)))))⟩,
         ⟨some 2, none, .move (.slot 12) true⟩]))
       .skip))
     (.seq
      (.seq
       (.region [⟨some 13, none, .move (.slot 0) false⟩,
        ⟨some 14, none, .bin false .geq (.slot 13) (.lit (.c (.d (.v (.int .u64 256)))))⟩])
       (.cond (.slot 14)
        (.seq
         (.region [⟨some 15, none, .move (.slot 0) false⟩,
          ⟨some 16, none, .bin false .shr (.slot 15) (.lit (.c (.d (.v (.int .u64 8)))))⟩,
          ⟨some 0, none, .move (.slot 16) true⟩])
         (.region [⟨some 17, none, .move (.slot 2) false⟩,
          ⟨some 18, none, .bin false .add (.slot 17) (.lit (.c (.d (.v (.int .i64 8)))))⟩,
          ⟨some 2, none, .move (.slot 18) true⟩]))
        .skip))
      (.seq
       (.region [⟨some 19, none, .move (.slot 2) false⟩,
        ⟨some 20, none, .move (.slot 0) false⟩,
        ⟨some 21, none, .conv .u8 (.slot 20)⟩,
        ⟨some 22, none, .indexStr (.lit (.c (.d (.v (.string ⟨#[0, 1, 2, 2, 3, 3, 3, 3, 4, 4, 4, 4, 4, 4, 4, 4, 5, 5, 5, 5, 5, 5, 5, 5, 5, 5, 5, 5, 5, 5, 5, 5, 6, 6, 6, 6, 6, 6, 6, 6, 6, 6, 6, 6, 6, 6, 6, 6, 6, 6, 6, 6, 6, 6, 6, 6, 6, 6, 6, 6, 6, 6, 6, 6, 7, 7, 7, 7, 7, 7, 7, 7, 7, 7, 7, 7, 7, 7, 7, 7, 7, 7, 7, 7, 7, 7, 7, 7, 7, 7, 7, 7, 7, 7, 7, 7, 7, 7, 7, 7, 7, 7, 7, 7, 7, 7, 7, 7, 7, 7, 7, 7, 7, 7, 7, 7, 7, 7, 7, 7, 7, 7, 7, 7, 7, 7, 7, 7, 8, 8, 8, 8, 8, 8, 8, 8, 8, 8, 8, 8, 8, 8, 8, 8, 8, 8, 8, 8, 8, 8, 8, 8, 8, 8, 8, 8, 8, 8, 8, 8, 8, 8, 8, 8, 8, 8, 8, 8, 8, 8, 8, 8, 8, 8, 8, 8, 8, 8, 8, 8, 8, 8, 8, 8, 8, 8, 8, 8, 8, 8, 8, 8, 8, 8, 8, 8, 8, 8, 8, 8, 8, 8, 8, 8, 8, 8, 8, 8, 8, 8, 8, 8, 8, 8, 8, 8, 8, 8, 8, 8, 8, 8, 8, 8, 8, 8, 8, 8, 8, 8, 8, 8, 8, 8, 8, 8, 8, 8, 8, 8, 8, 8, 8, 8, 8, 8, 8, 8, 8, 8, 8, 8, 8, 8, 8, 8]⟩))))) (.slot 21)⟩,
        ⟨some 23, none, .conv .i64 (.slot 22)⟩,
        ⟨some 24, none, .bin false .add (.slot 19) (.slot 23)⟩,
        ⟨some 2, none, .move (.slot 24) true⟩])
       .ret)))))

theorem F_math_bits_Len64 : Fn Try.prog 101 Try.f101 25 [] [.t 2] c_math_bits_Len64 where
  hm := by kernel_rfl
  hf := Try.func101
  hb := by kernel_rfl
  hc := by kernel_rfl
  hts := by kernel_rfl
  hnd := by decide
  hn := Nat.le_of_eq (by kernel_rfl)

def c_slices_EqualFunc_api_Seg_api_Seg_api_Seg_api_Seg : VC :=
  (.seq
   (.region [⟨some 6, none, .move (.lit (.c (.d (.v (.bool false))))) true⟩])
   (.seq
    (.seq
     (.region [⟨some 10, none, .move (.slot 0) false⟩,
      ⟨some 11, none, .len (.slot 10)⟩,
      ⟨some 12, none, .move (.slot 1) false⟩,
      ⟨some 13, none, .len (.slot 12)⟩,
      ⟨some 14, none, .bin false .neq (.slot 11) (.slot 13)⟩])
     (.cond (.slot 14)
      (.seq
       (.region [⟨some 6, none, .move (.lit (.c (.d (.v (.bool false))))) true⟩])
       .ret)
      .skip))
    (.seq
     (.seq
      (.region [⟨some 15, none, .move (.slot 0) false⟩,
       ⟨some 16, none, .len (.slot 15)⟩,
       ⟨some 17, none, .move (.lit (.c (.d (.v (.int .i64 0))))) false⟩])
      (.block 0
       (.loop
        (.seq
         (.region [⟨some 18, none, .bin false .lss (.slot 17) (.slot 16)⟩])
         (.seq
          (.cond (.slot 18)
           .skip
           (.exit 0))
          (.seq
           (.block 1
            (.seq
             (.region [⟨some 19, none, .move (.slot 17) false⟩,
              ⟨some 20, none, .indexAddr (.slot 15) (.slot 17) 2⟩,
              ⟨some 21, none, .load (.slot 20) true 2 false⟩,
              ⟨some 8, none, .alloc 17 [.d (.v (.int .i64 0)), .nilsl]⟩,
              ⟨some 7, none, .move (.slot 19) true⟩,
              ⟨none, none, .store (.slot 8) (.slot 21) 2⟩])
             (.seq
              (.region [⟨some 22, none, .move (.slot 1) false⟩,
               ⟨some 23, none, .move (.slot 7) false⟩,
               ⟨some 24, none, .indexAddr (.slot 22) (.slot 23) 2⟩,
               ⟨some 25, none, .load (.slot 24) true 2 false⟩,
               ⟨some 9, none, .alloc 19 [.d (.v (.int .i64 0)), .nilsl]⟩,
               ⟨none, none, .store (.slot 9) (.slot 25) 2⟩])
              (.seq
               (.region [⟨some 26, none, .move (.slot 2) false⟩,
                ⟨some 27, none, .load (.slot 8) true 2 false⟩,
                ⟨some 28, none, .load (.slot 9) true 2 false⟩,
                ⟨some 29, none, .callV (.slot 26) [.slot 27, .slot 28]⟩,
                ⟨some 30, none, .un .not (.slot 29)⟩])
               (.cond (.slot 30)
                (.seq
                 (.region [⟨some 6, none, .move (.lit (.c (.d (.v (.bool false))))) true⟩])
                 .ret)
                .skip)))))
           (.region [⟨some 31, none, .bin false .add (.slot 17) (.lit (.c (.d (.v (.int .i64 1)))))⟩,
            ⟨some 17, none, .move (.slot 31) false⟩])))))))
     (.seq
      (.region [⟨some 6, none, .move (.lit (.c (.d (.v (.bool true))))) true⟩])
      .ret))))

theorem F_slices_EqualFunc_api_Seg_api_Seg_api_Seg_api_Seg : Fn Try.prog 102 Try.f102 32 [] [.t 6] c_slices_EqualFunc_api_Seg_api_Seg_api_Seg_api_Seg where
  hm := by kernel_rfl
  hf := Try.func102
  hb := by kernel_rfl
  hc := by kernel_rfl
  hts := by kernel_rfl
  hnd := by decide
  hn := Nat.le_of_eq (by kernel_rfl)

def c_path_same_S1 : VC :=
  (.seq
   (.region [⟨some 2, none, .box 5 2 (.slot 0)⟩,
    ⟨some 3, none, .box 7 2 (.slot 1)⟩,
    ⟨some 4, none, .move (.lit (.c (.d (.v (.bool false))))) true⟩])
   (.seq
    (.region [⟨some 5, none, .fieldAddr (.slot 2) 0⟩,
     ⟨some 6, none, .load (.slot 5) false 1 false⟩,
     ⟨some 7, none, .fieldAddr (.slot 3) 0⟩,
     ⟨some 8, none, .load (.slot 7) false 1 false⟩,
     ⟨some 9, none, .bin false .eql (.slot 6) (.slot 8)⟩,
     ⟨some 10, none, .move (.slot 9) false⟩,
     ⟨some 11, some (10, true), .fieldAddr (.slot 2) 1⟩,
     ⟨some 12, some (10, true), .load (.slot 11) false 1 false⟩,
     ⟨some 13, some (10, true), .fieldAddr (.slot 3) 1⟩,
     ⟨some 14, some (10, true), .load (.slot 13) false 1 false⟩,
     ⟨some 15, some (10, true), .call 80 [.slot 12, .slot 14]⟩,
     ⟨some 16, none, .pick (.slot 10) (.slot 15) (.lit (.c (.d (.v (.bool false)))))⟩,
     ⟨some 4, none, .move (.slot 16) true⟩])
    .ret))

theorem F_path_same_S1 : Fn Try.prog 103 Try.f103 17 [] [.t 4] c_path_same_S1 where
  hm := by kernel_rfl
  hf := Try.func103
  hb := by kernel_rfl
  hc := by kernel_rfl
  hts := by kernel_rfl
  hnd := by decide
  hn := Nat.le_of_eq (by kernel_rfl)

def c_slices_Chunk_uint32_uint32_S1 : VC :=
  (.seq
   (.region [⟨some 4, none, .move (.lit (.c (.d (.v (.int .i64 0))))) true⟩])
   (.block 0
    (.loop
     (.seq
      (.seq
       (.region [⟨some 6, none, .move (.slot 4) false⟩,
        ⟨some 7, none, .load (.slot 1) false 1 false⟩,
        ⟨some 8, none, .len (.slot 7)⟩,
        ⟨some 9, none, .bin false .lss (.slot 6) (.slot 8)⟩])
       (.cond (.slot 9)
        .skip
        (.exit 0)))
      (.seq
       (.block 1
        (.seq
         (.draw [] [⟨some 13, none, .load (.slot 2) false 1 false⟩,
          ⟨some 14, none, .load (.slot 1) false 1 false⟩,
          ⟨some 15, none, .move (.slot 4) false⟩,
          ⟨some 16, none, .slice 1 (.slot 14) (some (.slot 15)) none none⟩,
          ⟨some 17, none, .len (.slot 16)⟩,
          ⟨some 18, none, .mm false (.slot 13) (.slot 17)⟩,
          ⟨some 5, none, .move (.slot 18) true⟩])
         (.seq
          (.region [⟨some 19, none, .move (.slot 0) false⟩,
           ⟨some 20, none, .load (.slot 1) false 1 false⟩,
           ⟨some 21, none, .move (.slot 4) false⟩,
           ⟨some 22, none, .move (.slot 4) false⟩,
           ⟨some 23, none, .move (.slot 5) false⟩,
           ⟨some 24, none, .bin false .add (.slot 22) (.slot 23)⟩,
           ⟨some 25, none, .move (.slot 4) false⟩,
           ⟨some 26, none, .move (.slot 5) false⟩,
           ⟨some 27, none, .bin false .add (.slot 25) (.slot 26)⟩,
           ⟨some 28, none, .slice 1 (.slot 20) (some (.slot 21)) (some (.slot 24)) (some (.slot 27))⟩,
           ⟨some 29, none, .callV (.slot 19) [.slot 28]⟩,
           ⟨some 30, none, .un .not (.slot 29)⟩])
          (.cond (.slot 30)
           .ret
           .skip))))
       (.region [⟨some 10, none, .move (.slot 4) false⟩,
        ⟨some 11, none, .load (.slot 2) false 1 false⟩,
        ⟨some 12, none, .bin false .add (.slot 10) (.slot 11)⟩,
        ⟨some 4, none, .move (.slot 12) true⟩]))))))

theorem F_slices_Chunk_uint32_uint32_S1 : Fn Try.prog 104 Try.f104 31 [] [] c_slices_Chunk_uint32_uint32_S1 where
  hm := by kernel_rfl
  hf := Try.func104
  hb := by kernel_rfl
  hc := by kernel_rfl
  hts := by kernel_rfl
  hnd := by decide
  hn := Nat.le_of_eq (by kernel_rfl)

def c_slices_siftDownOrdered_uint32 : VC :=
  (.seq
   (.region [⟨some 10, none, .move (.slot 1) false⟩,
    ⟨some 8, none, .move (.slot 10) true⟩])
   (.block 0
    (.loop
     (.block 1
      (.seq
       (.region [⟨some 11, none, .move (.slot 8) false⟩,
        ⟨some 12, none, .bin false .mul (.lit (.c (.d (.v (.int .i64 2))))) (.slot 11)⟩,
        ⟨some 13, none, .bin false .add (.slot 12) (.lit (.c (.d (.v (.int .i64 1)))))⟩,
        ⟨some 9, none, .move (.slot 13) true⟩])
       (.seq
        (.seq
         (.region [⟨some 14, none, .move (.slot 9) false⟩,
          ⟨some 15, none, .move (.slot 2) false⟩,
          ⟨some 16, none, .bin false .geq (.slot 14) (.slot 15)⟩])
         (.cond (.slot 16)
          (.exit 0)
          .skip))
        (.seq
         (.seq
          (.draw [] [⟨some 17, none, .move (.slot 9) false⟩,
           ⟨some 18, none, .bin false .add (.slot 17) (.lit (.c (.d (.v (.int .i64 1)))))⟩,
           ⟨some 19, none, .move (.slot 2) false⟩,
           ⟨some 20, none, .bin false .lss (.slot 18) (.slot 19)⟩,
           ⟨some 21, none, .move (.slot 20) false⟩,
           ⟨some 22, some (21, true), .move (.slot 0) false⟩,
           ⟨some 23, some (21, true), .move (.slot 3) false⟩,
           ⟨some 24, some (21, true), .move (.slot 9) false⟩,
           ⟨some 25, some (21, true), .bin false .add (.slot 23) (.slot 24)⟩,
           ⟨some 26, some (21, true), .indexAddr (.slot 22) (.slot 25) 1⟩,
           ⟨some 27, some (21, true), .load (.slot 26) false 1 false⟩,
           ⟨some 28, some (21, true), .move (.slot 0) false⟩,
           ⟨some 29, some (21, true), .move (.slot 3) false⟩,
           ⟨some 30, some (21, true), .move (.slot 9) false⟩,
           ⟨some 31, some (21, true), .bin false .add (.slot 29) (.slot 30)⟩,
           ⟨some 32, some (21, true), .bin false .add (.slot 31) (.lit (.c (.d (.v (.int .i64 1)))))⟩,
           ⟨some 33, some (21, true), .indexAddr (.slot 28) (.slot 32) 1⟩,
           ⟨some 34, some (21, true), .load (.slot 33) false 1 false⟩,
           ⟨some 35, some (21, true), .call 97 [.slot 27, .slot 34]⟩,
           ⟨some 36, none, .pick (.slot 21) (.slot 35) (.lit (.c (.d (.v (.bool false)))))⟩])
          (.cond (.slot 36)
           (.region [⟨some 37, none, .move (.slot 9) false⟩,
            ⟨some 38, none, .bin false .add (.slot 37) (.lit (.c (.d (.v (.int .i64 1)))))⟩,
            ⟨some 9, none, .move (.slot 38) true⟩])
           .skip))
         (.seq
          (.seq
           (.draw [] [⟨some 39, none, .move (.slot 0) false⟩,
            ⟨some 40, none, .move (.slot 3) false⟩,
            ⟨some 41, none, .move (.slot 8) false⟩,
            ⟨some 42, none, .bin false .add (.slot 40) (.slot 41)⟩,
            ⟨some 43, none, .indexAddr (.slot 39) (.slot 42) 1⟩,
            ⟨some 44, none, .load (.slot 43) false 1 false⟩,
            ⟨some 45, none, .move (.slot 0) false⟩,
            ⟨some 46, none, .move (.slot 3) false⟩,
            ⟨some 47, none, .move (.slot 9) false⟩,
            ⟨some 48, none, .bin false .add (.slot 46) (.slot 47)⟩,
            ⟨some 49, none, .indexAddr (.slot 45) (.slot 48) 1⟩,
            ⟨some 50, none, .load (.slot 49) false 1 false⟩,
            ⟨some 51, none, .call 97 [.slot 44, .slot 50]⟩,
            ⟨some 52, none, .un .not (.slot 51)⟩])
           (.cond (.slot 52)
            .ret
            .skip))
          (.seq
           (.draw [] [⟨some 53, none, .move (.slot 0) false⟩,
            ⟨some 54, none, .move (.slot 3) false⟩,
            ⟨some 55, none, .move (.slot 8) false⟩,
            ⟨some 56, none, .bin false .add (.slot 54) (.slot 55)⟩,
            ⟨some 57, none, .move (.slot 0) false⟩,
            ⟨some 58, none, .move (.slot 3) false⟩,
            ⟨some 59, none, .move (.slot 9) false⟩,
            ⟨some 60, none, .bin false .add (.slot 58) (.slot 59)⟩,
            ⟨some 61, none, .move (.slot 0) false⟩,
            ⟨some 62, none, .move (.slot 3) false⟩,
            ⟨some 63, none, .move (.slot 9) false⟩,
            ⟨some 64, none, .bin false .add (.slot 62) (.slot 63)⟩,
            ⟨some 65, none, .indexAddr (.slot 61) (.slot 64) 1⟩,
            ⟨some 66, none, .load (.slot 65) false 1 false⟩,
            ⟨some 67, none, .move (.slot 0) false⟩,
            ⟨some 68, none, .move (.slot 3) false⟩,
            ⟨some 69, none, .move (.slot 8) false⟩,
            ⟨some 70, none, .bin false .add (.slot 68) (.slot 69)⟩,
            ⟨some 71, none, .indexAddr (.slot 67) (.slot 70) 1⟩,
            ⟨some 72, none, .load (.slot 71) false 1 false⟩,
            ⟨some 73, none, .indexAddr (.slot 53) (.slot 56) 1⟩,
            ⟨none, none, .store (.slot 73) (.slot 66) 1⟩,
            ⟨some 74, none, .indexAddr (.slot 57) (.slot 60) 1⟩,
            ⟨none, none, .store (.slot 74) (.slot 72) 1⟩])
           (.region [⟨some 75, none, .move (.slot 9) false⟩,
            ⟨some 8, none, .move (.slot 75) true⟩]))))))))))

theorem F_slices_siftDownOrdered_uint32 : Fn Try.prog 105 Try.f105 76 [] [] c_slices_siftDownOrdered_uint32 where
  hm := by kernel_rfl
  hf := Try.func105
  hb := by kernel_rfl
  hc := by kernel_rfl
  hts := by kernel_rfl
  hnd := by decide
  hn := Nat.le_of_eq (by kernel_rfl)

def c_slices_nextPowerOfTwo : VC :=
  (.seq
   (.region [⟨some 2, none, .move (.lit (.c (.d (.v (.int .u64 0))))) true⟩])
   (.seq
    (.region [⟨some 3, none, .move (.slot 0) false⟩,
     ⟨some 4, none, .conv .u64 (.slot 3)⟩,
     ⟨some 5, none, .call 86 [.slot 4]⟩,
     ⟨some 6, none, .bin false .shl (.lit (.c (.d (.v (.int .u64 1))))) (.slot 5)⟩,
     ⟨some 2, none, .move (.slot 6) true⟩])
    .ret))

theorem F_slices_nextPowerOfTwo : Fn Try.prog 106 Try.f106 7 [] [.t 2] c_slices_nextPowerOfTwo where
  hm := by kernel_rfl
  hf := Try.func106
  hb := by kernel_rfl
  hc := by kernel_rfl
  hts := by kernel_rfl
  hnd := by decide
  hn := Nat.le_of_eq (by kernel_rfl)

def c_slices_xorshift_Next : VC :=
  (.seq
   (.region [⟨some 2, none, .move (.lit (.c (.d (.v (.int .u64 0))))) true⟩])
   (.seq
    (.draw [] [⟨some 3, none, .move (.slot 0) false⟩,
     ⟨some 4, none, .nilCheck (.slot 3)⟩,
     ⟨some 5, none, .load (.slot 4) false 1 false⟩,
     ⟨some 6, none, .move (.slot 0) false⟩,
     ⟨some 7, none, .nilCheck (.slot 6)⟩,
     ⟨some 8, none, .load (.slot 7) false 1 false⟩,
     ⟨some 9, none, .bin false .shl (.slot 8) (.lit (.c (.d (.v (.int .u64 13)))))⟩,
     ⟨some 10, none, .bin false .xor (.slot 5) (.slot 9)⟩,
     ⟨some 11, none, .nilCheck (.slot 3)⟩,
     ⟨none, none, .store (.slot 11) (.slot 10) 1⟩])
    (.seq
     (.draw [] [⟨some 12, none, .move (.slot 0) false⟩,
      ⟨some 13, none, .nilCheck (.slot 12)⟩,
      ⟨some 14, none, .load (.slot 13) false 1 false⟩,
      ⟨some 15, none, .move (.slot 0) false⟩,
      ⟨some 16, none, .nilCheck (.slot 15)⟩,
      ⟨some 17, none, .load (.slot 16) false 1 false⟩,
      ⟨some 18, none, .bin false .shr (.slot 17) (.lit (.c (.d (.v (.int .u64 7)))))⟩,
      ⟨some 19, none, .bin false .xor (.slot 14) (.slot 18)⟩,
      ⟨some 20, none, .nilCheck (.slot 12)⟩,
      ⟨none, none, .store (.slot 20) (.slot 19) 1⟩])
     (.seq
      (.draw [] [⟨some 21, none, .move (.slot 0) false⟩,
       ⟨some 22, none, .nilCheck (.slot 21)⟩,
       ⟨some 23, none, .load (.slot 22) false 1 false⟩,
       ⟨some 24, none, .move (.slot 0) false⟩,
       ⟨some 25, none, .nilCheck (.slot 24)⟩,
       ⟨some 26, none, .load (.slot 25) false 1 false⟩,
       ⟨some 27, none, .bin false .shl (.slot 26) (.lit (.c (.d (.v (.int .u64 17)))))⟩,
       ⟨some 28, none, .bin false .xor (.slot 23) (.slot 27)⟩,
       ⟨some 29, none, .nilCheck (.slot 21)⟩,
       ⟨none, none, .store (.slot 29) (.slot 28) 1⟩])
      (.seq
       (.region [⟨some 30, none, .move (.slot 0) false⟩,
        ⟨some 31, none, .nilCheck (.slot 30)⟩,
        ⟨some 32, none, .load (.slot 31) false 1 true⟩,
        ⟨some 2, none, .move (.slot 32) true⟩])
       .ret)))))

theorem F_slices_xorshift_Next : Fn Try.prog 107 Try.f107 33 [32] [.t 2] c_slices_xorshift_Next where
  hm := by kernel_rfl
  hf := Try.func107
  hb := by kernel_rfl
  hc := by kernel_rfl
  hts := by kernel_rfl
  hnd := by decide
  hn := Nat.le_of_eq (by kernel_rfl)

def c_slices_medianAdjacentOrdered_uint32 : VC :=
  (.seq
   (.region [⟨some 6, none, .move (.lit (.c (.d (.v (.int .i64 0))))) true⟩])
   (.seq
    (.region [⟨some 7, none, .move (.slot 0) false⟩,
     ⟨some 8, none, .move (.slot 1) false⟩,
     ⟨some 9, none, .bin false .sub (.slot 8) (.lit (.c (.d (.v (.int .i64 1)))))⟩,
     ⟨some 10, none, .move (.slot 1) false⟩,
     ⟨some 11, none, .move (.slot 1) false⟩,
     ⟨some 12, none, .bin false .add (.slot 11) (.lit (.c (.d (.v (.int .i64 1)))))⟩,
     ⟨some 13, none, .move (.slot 2) false⟩,
     ⟨some 14, none, .call 109 [.slot 7, .slot 9, .slot 10, .slot 12, .slot 13]⟩,
     ⟨some 6, none, .move (.slot 14) true⟩])
    .ret))

theorem F_slices_medianAdjacentOrdered_uint32 : Fn Try.prog 108 Try.f108 15 [] [.t 6] c_slices_medianAdjacentOrdered_uint32 where
  hm := by kernel_rfl
  hf := Try.func108
  hb := by kernel_rfl
  hc := by kernel_rfl
  hts := by kernel_rfl
  hnd := by decide
  hn := Nat.le_of_eq (by kernel_rfl)

def c_slices_medianOrdered_uint32 : VC :=
  (.seq
   (.region [⟨some 10, none, .move (.lit (.c (.d (.v (.int .i64 0))))) true⟩])
   (.seq
    (.region [⟨some 12, none, .move (.slot 0) false⟩,
     ⟨some 13, none, .move (.slot 1) false⟩,
     ⟨some 14, none, .move (.slot 2) false⟩,
     ⟨some 15, none, .move (.slot 4) false⟩,
     ⟨some 16, none, .call 111 [.slot 12, .slot 13, .slot 14, .slot 15]⟩,
     ⟨some 11, none, .move (.slot 16) false⟩,
     ⟨some 17, none, .extract (.slot 11) 0 false⟩,
     ⟨some 18, none, .extract (.slot 11) 1 false⟩,
     ⟨some 1, none, .move (.slot 17) true⟩,
     ⟨some 2, none, .move (.slot 18) true⟩])
    (.seq
     (.region [⟨some 20, none, .move (.slot 0) false⟩,
      ⟨some 21, none, .move (.slot 2) false⟩,
      ⟨some 22, none, .move (.slot 3) false⟩,
      ⟨some 23, none, .move (.slot 4) false⟩,
      ⟨some 24, none, .call 111 [.slot 20, .slot 21, .slot 22, .slot 23]⟩,
      ⟨some 19, none, .move (.slot 24) false⟩,
      ⟨some 25, none, .extract (.slot 19) 0 false⟩,
      ⟨some 26, none, .extract (.slot 19) 1 false⟩,
      ⟨some 2, none, .move (.slot 25) true⟩,
      ⟨some 3, none, .move (.slot 26) true⟩])
     (.seq
      (.region [⟨some 28, none, .move (.slot 0) false⟩,
       ⟨some 29, none, .move (.slot 1) false⟩,
       ⟨some 30, none, .move (.slot 2) false⟩,
       ⟨some 31, none, .move (.slot 4) false⟩,
       ⟨some 32, none, .call 111 [.slot 28, .slot 29, .slot 30, .slot 31]⟩,
       ⟨some 27, none, .move (.slot 32) false⟩,
       ⟨some 33, none, .extract (.slot 27) 0 false⟩,
       ⟨some 34, none, .extract (.slot 27) 1 false⟩,
       ⟨some 1, none, .move (.slot 33) true⟩,
       ⟨some 2, none, .move (.slot 34) true⟩])
      (.seq
       (.region [⟨some 35, none, .move (.slot 2) true⟩,
        ⟨some 10, none, .move (.slot 35) true⟩])
       .ret)))))

theorem F_slices_medianOrdered_uint32 : Fn Try.prog 109 Try.f109 36 [35] [.t 10] c_slices_medianOrdered_uint32 where
  hm := by kernel_rfl
  hf := Try.func109
  hb := by kernel_rfl
  hc := by kernel_rfl
  hts := by kernel_rfl
  hnd := by decide
  hn := Nat.le_of_eq (by kernel_rfl)

def c_cmp_isNaN_uint32 : VC :=
  (.seq
   (.region [⟨some 2, none, .move (.lit (.c (.d (.v (.bool false))))) true⟩])
   (.seq
    (.region [⟨some 3, none, .move (.slot 0) false⟩,
     ⟨some 4, none, .move (.slot 0) false⟩,
     ⟨some 5, none, .bin false .neq (.slot 3) (.slot 4)⟩,
     ⟨some 2, none, .move (.slot 5) true⟩])
    .ret))

theorem F_cmp_isNaN_uint32 : Fn Try.prog 110 Try.f110 6 [] [.t 2] c_cmp_isNaN_uint32 where
  hm := by kernel_rfl
  hf := Try.func110
  hb := by kernel_rfl
  hc := by kernel_rfl
  hts := by kernel_rfl
  hnd := by decide
  hn := Nat.le_of_eq (by kernel_rfl)

def c_slices_order2Ordered_uint32 : VC :=
  (.seq
   (.region [⟨some 8, none, .move (.lit (.c (.d (.v (.int .i64 0))))) true⟩,
    ⟨some 9, none, .move (.lit (.c (.d (.v (.int .i64 0))))) true⟩])
   (.seq
    (.seq
     (.draw [] [⟨some 10, none, .move (.slot 0) false⟩,
      ⟨some 11, none, .move (.slot 2) false⟩,
      ⟨some 12, none, .indexAddr (.slot 10) (.slot 11) 1⟩,
      ⟨some 13, none, .load (.slot 12) false 1 false⟩,
      ⟨some 14, none, .move (.slot 0) false⟩,
      ⟨some 15, none, .move (.slot 1) false⟩,
      ⟨some 16, none, .indexAddr (.slot 14) (.slot 15) 1⟩,
      ⟨some 17, none, .load (.slot 16) false 1 false⟩,
      ⟨some 18, none, .call 97 [.slot 13, .slot 17]⟩])
     (.cond (.slot 18)
      (.seq
       (.region [⟨some 19, none, .move (.slot 3) false⟩,
        ⟨some 20, none, .nilCheck (.slot 19)⟩,
        ⟨some 21, none, .load (.slot 20) false 1 false⟩,
        ⟨some 22, none, .bin false .add (.slot 21) (.lit (.c (.d (.v (.int .i64 1)))))⟩,
        ⟨some 23, none, .nilCheck (.slot 19)⟩,
        ⟨none, none, .store (.slot 23) (.slot 22) 1⟩])
       (.seq
        (.region [⟨some 24, none, .move (.slot 2) true⟩,
         ⟨some 25, none, .move (.slot 1) true⟩,
         ⟨some 8, none, .move (.slot 24) true⟩,
         ⟨some 9, none, .move (.slot 25) true⟩])
        .ret))
      .skip))
    (.seq
     (.region [⟨some 26, none, .move (.slot 1) true⟩,
      ⟨some 27, none, .move (.slot 2) true⟩,
      ⟨some 8, none, .move (.slot 26) true⟩,
      ⟨some 9, none, .move (.slot 27) true⟩])
     .ret)))

theorem F_slices_order2Ordered_uint32 : Fn Try.prog 111 Try.f111 28 [24,25,26,27] [.t 8, .t 9] c_slices_order2Ordered_uint32 where
  hm := by kernel_rfl
  hf := Try.func111
  hb := by kernel_rfl
  hc := by kernel_rfl
  hts := by kernel_rfl
  hnd := by decide
  hn := Nat.le_of_eq (by kernel_rfl)

end Go.V

