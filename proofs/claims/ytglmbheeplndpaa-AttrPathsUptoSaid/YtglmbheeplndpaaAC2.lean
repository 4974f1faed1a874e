/- The value machine: the code of functions, as its compiler takes it (printed by a program). -/
import Derived.Test.YtglmbheeplndpaaV25
import Derived.Test.YtglmbheeplndpaaProg
set_option linter.all false
set_option linter.unusedSimpArgs false
set_option linter.unusedVariables false
namespace Go.V
open Go Go.Proofs

def c_attr_pieces : VC :=
  (.seq
   (.region [⟨some 2, none, .move (.lit (.c .nilsl)) true⟩,
    ⟨some 3, none, .move (.lit (.c (.d (.v (.bool false))))) true⟩])
   (.seq
    (.region [⟨some 4, none, .move (.lit (.c .nilsl)) true⟩])
    (.seq
     (.region [⟨some 7, none, .move (.slot 0) false⟩,
      ⟨some 8, none, .call 20 [.slot 7]⟩,
      ⟨some 5, none, .move (.slot 8) true⟩])
     (.seq
      (.block 0
       (.loop
        (.seq
         (.seq
          (.region [⟨some 9, none, .move (.slot 5) false⟩,
           ⟨some 10, none, .call 21 [.slot 9]⟩,
           ⟨some 11, none, .bin false .gtr (.slot 10) (.lit (.c (.d (.v (.int .i64 0)))))⟩])
          (.cond (.slot 11)
           .skip
           (.exit 0)))
         (.block 1
          (.seq
           (.region [⟨some 12, none, .move (.slot 5) false⟩,
            ⟨some 13, none, .call 44 [.slot 12]⟩,
            ⟨some 14, none, .build [.d (.v (.int .i64 0)), .nilsl] [(0, (1, .slot 13))]⟩,
            ⟨some 6, none, .alloc 13 [.d (.v (.int .i64 0)), .nilsl]⟩,
            ⟨none, none, .store (.slot 6) (.slot 14) 2⟩])
           (.seq
            (.seq
             (.region [⟨some 15, none, .move (.slot 5) false⟩,
              ⟨some 16, none, .call 44 [.slot 15]⟩,
              ⟨some 17, none, .move (.lit (.c (.d (.v (.int .i64 0))))) false⟩])
             (.block 2
              (.loop
               (.seq
                (.region [⟨some 18, none, .bin false .lss (.slot 17) (.slot 16)⟩])
                (.seq
                 (.cond (.slot 18)
                  .skip
                  (.exit 2))
                 (.seq
                  (.block 3
                   (.seq
                    (.draw [(1, 3)] [⟨some 19, none, .fieldAddr (.slot 6) 1⟩,
                     ⟨some 20, none, .load (.slot 19) false 1 true⟩,
                     ⟨some 21, none, .move (.slot 5) false⟩,
                     ⟨some 22, none, .call 62 [.slot 21]⟩,
                     ⟨some 23, none, .buildSlice 25 1 1 [.v (.int .u32 0)] [(0, .slot 22)]⟩,
                     ⟨some 24, none, .append false 25 1 4 (.slot 20) (.slot 23)⟩,
                     ⟨some 25, none, .fieldAddr (.slot 6) 1⟩,
                     ⟨none, none, .store (.slot 25) (.slot 24) 1⟩])
                    (.seq
                     (.region [⟨some 26, none, .move (.slot 5) false⟩,
                      ⟨some 27, none, .call 51 [.slot 26]⟩])
                     (.cond (.slot 27)
                      (.seq
                       (.region [⟨some 2, none, .move (.lit (.c .nilsl)) true⟩,
                        ⟨some 3, none, .move (.lit (.c (.d (.v (.bool false))))) true⟩])
                       .ret)
                      .skip))))
                  (.region [⟨some 28, none, .bin false .add (.slot 17) (.lit (.c (.d (.v (.int .i64 1)))))⟩,
                   ⟨some 17, none, .move (.slot 28) false⟩])))))))
            (.seq
             (.seq
              (.region [⟨some 29, none, .fieldAddr (.slot 6) 1⟩,
               ⟨some 30, none, .load (.slot 29) false 1 false⟩,
               ⟨some 31, none, .len (.slot 30)⟩,
               ⟨some 32, none, .bin false .eql (.slot 31) (.lit (.c (.d (.v (.int .i64 0)))))⟩,
               ⟨some 33, none, .move (.slot 32) false⟩,
               ⟨some 34, some (33, false), .fieldAddr (.slot 6) 0⟩,
               ⟨some 35, some (33, false), .load (.slot 34) false 1 false⟩,
               ⟨some 36, some (33, false), .bin false .neq (.slot 35) (.lit (.c (.d (.v (.int .i64 1)))))⟩,
               ⟨some 37, some (33, false), .move (.slot 36) false⟩,
               ⟨some 38, some (37, true), .fieldAddr (.slot 6) 0⟩,
               ⟨some 39, some (37, true), .load (.slot 38) false 1 false⟩,
               ⟨some 40, some (37, true), .bin false .neq (.slot 39) (.lit (.c (.d (.v (.int .i64 2)))))⟩,
               ⟨some 41, some (33, false), .pick (.slot 37) (.slot 40) (.lit (.c (.d (.v (.bool false)))))⟩,
               ⟨some 42, none, .pick (.slot 33) (.lit (.c (.d (.v (.bool true))))) (.slot 41)⟩])
              (.cond (.slot 42)
               (.seq
                (.region [⟨some 2, none, .move (.lit (.c .nilsl)) true⟩,
                 ⟨some 3, none, .move (.lit (.c (.d (.v (.bool false))))) true⟩])
                .ret)
               .skip))
             (.region [⟨some 43, none, .move (.slot 4) true⟩,
              ⟨some 44, none, .load (.slot 6) true 2 false⟩,
              ⟨some 45, none, .buildSlice 65 2 1 [.v (.int .i64 0), .sl []] [(0, .slot 44)]⟩,
              ⟨some 46, none, .append false 65 2 32 (.slot 43) (.slot 45)⟩,
              ⟨some 4, none, .move (.slot 46) true⟩]))))))))
      (.seq
       (.region [⟨some 47, none, .move (.slot 4) true⟩,
        ⟨some 2, none, .move (.slot 47) true⟩,
        ⟨some 3, none, .move (.lit (.c (.d (.v (.bool true))))) true⟩])
       .ret)))))

theorem F_attr_pieces : Fn Try.prog 32 Try.f32 48 [20,43,47] [.t 2, .t 3] c_attr_pieces where
  hm := by kernel_rfl
  hf := Try.func32
  hb := by kernel_rfl
  hc := by kernel_rfl
  hts := by kernel_rfl
  hnd := by decide
  hn := Nat.le_of_eq (by kernel_rfl)

def c_l04_Few : VC :=
  (.seq
   (.region [⟨some 2, none, .move (.lit (.c .nilsl)) true⟩])
   (.seq
    (.region [⟨some 5, none, .buildSlice 65 2 0 [.v (.int .i64 0), .sl []] []⟩,
     ⟨some 3, none, .move (.slot 5) true⟩])
    (.seq
     (.seq
      (.region [⟨some 4, none, .move (.lit (.c (.d (.v (.int .i64 0))))) true⟩])
      (.block 0
       (.loop
        (.seq
         (.seq
          (.region [⟨some 6, none, .move (.slot 4) false⟩,
           ⟨some 7, none, .move (.slot 0) false⟩,
           ⟨some 8, none, .len (.slot 7)⟩,
           ⟨some 9, none, .bin false .lss (.slot 6) (.slot 8)⟩,
           ⟨some 10, none, .move (.slot 9) false⟩,
           ⟨some 11, some (10, true), .move (.slot 4) false⟩,
           ⟨some 12, some (10, true), .bin false .lss (.slot 11) (.lit (.c (.d (.v (.int .i64 12)))))⟩,
           ⟨some 13, none, .pick (.slot 10) (.slot 12) (.lit (.c (.d (.v (.bool false)))))⟩])
          (.cond (.slot 13)
           .skip
           (.exit 0)))
         (.seq
          (.block 1
           (.draw [(5, 11)] [⟨some 16, none, .move (.slot 3) true⟩,
            ⟨some 17, none, .move (.slot 0) false⟩,
            ⟨some 18, none, .move (.slot 4) false⟩,
            ⟨some 19, none, .indexAddr (.slot 17) (.slot 18) 2⟩,
            ⟨some 20, none, .fieldAddr (.slot 19) 0⟩,
            ⟨some 21, none, .load (.slot 20) false 1 false⟩,
            ⟨some 22, none, .move (.slot 0) false⟩,
            ⟨some 23, none, .move (.slot 4) false⟩,
            ⟨some 24, none, .indexAddr (.slot 22) (.slot 23) 2⟩,
            ⟨some 25, none, .fieldAddr (.slot 24) 1⟩,
            ⟨some 26, none, .load (.slot 25) false 1 false⟩,
            ⟨some 27, none, .call 34 [.slot 26, .lit (.c (.d (.v (.int .i64 300))))]⟩,
            ⟨some 28, none, .build [.d (.v (.int .i64 0)), .nilsl] [(0, (1, .slot 21)), (1, (1, .slot 27))]⟩,
            ⟨some 29, none, .buildSlice 65 2 1 [.v (.int .i64 0), .sl []] [(0, .slot 28)]⟩,
            ⟨some 30, none, .append false 65 2 32 (.slot 16) (.slot 29)⟩,
            ⟨some 3, none, .move (.slot 30) true⟩]))
          (.region [⟨some 14, none, .move (.slot 4) false⟩,
           ⟨some 15, none, .bin false .add (.slot 14) (.lit (.c (.d (.v (.int .i64 1)))))⟩,
           ⟨some 4, none, .move (.slot 15) true⟩]))))))
     (.seq
      (.region [⟨some 31, none, .move (.slot 3) true⟩,
       ⟨some 2, none, .move (.slot 31) true⟩])
      .ret))))

theorem F_l04_Few : Fn Try.prog 33 Try.f33 32 [16,31] [.t 2] c_l04_Few where
  hm := by kernel_rfl
  hf := Try.func33
  hb := by kernel_rfl
  hc := by kernel_rfl
  hts := by kernel_rfl
  hnd := by decide
  hn := Nat.le_of_eq (by kernel_rfl)

def c_l02_Few : VC :=
  (.seq
   (.region [⟨some 4, none, .move (.lit (.c .nilsl)) true⟩])
   (.seq
    (.seq
     (.region [⟨some 5, none, .move (.slot 0) false⟩,
      ⟨some 6, none, .len (.slot 5)⟩,
      ⟨some 7, none, .move (.slot 1) false⟩,
      ⟨some 8, none, .bin false .gtr (.slot 6) (.slot 7)⟩])
     (.cond (.slot 8)
      (.region [⟨some 9, none, .move (.slot 0) false⟩,
       ⟨some 10, none, .move (.slot 1) false⟩,
       ⟨some 11, none, .slice 1 (.slot 9) none (some (.slot 10)) none⟩,
       ⟨some 0, none, .move (.slot 11) true⟩])
      .skip))
    (.seq
     (.region [⟨some 12, none, .buildSlice 25 1 0 [.v (.int .u32 0)] []⟩,
      ⟨some 13, none, .move (.slot 0) false⟩,
      ⟨some 14, none, .append false 25 1 4 (.slot 12) (.slot 13)⟩,
      ⟨some 4, none, .move (.slot 14) true⟩])
     .ret)))

theorem F_l02_Few : Fn Try.prog 34 Try.f34 15 [] [.t 4] c_l02_Few where
  hm := by kernel_rfl
  hf := Try.func34
  hb := by kernel_rfl
  hc := by kernel_rfl
  hts := by kernel_rfl
  hnd := by decide
  hn := Nat.le_of_eq (by kernel_rfl)

def c_attr_good : VC :=
  (.seq
   (.region [⟨some 1, none, .box 3 9 (.slot 0)⟩,
    ⟨some 2, none, .move (.lit (.c (.d (.v (.bool false))))) true⟩])
   (.seq
    (.block 0
     (.seq
      (.seq
       (.draw [(1, 2)] [⟨some 4, none, .load (.slot 1) true 9 false⟩,
        ⟨some 5, none, .call 25 [.slot 4]⟩,
        ⟨some 6, none, .load (.slot 1) true 9 false⟩,
        ⟨some 7, none, .call 63 [.slot 5, .slot 6]⟩,
        ⟨some 8, none, .un .not (.slot 7)⟩,
        ⟨some 3, none, .move (.slot 8) true⟩])
       (.cond (.slot 3)
        .skip
        (.seq
         (.region [⟨some 9, none, .fieldAddr (.slot 1) 1⟩,
          ⟨some 10, none, .load (.slot 9) false 1 false⟩,
          ⟨some 11, none, .bin false .lss (.slot 10) (.lit (.c (.d (.v (.int .i64 0)))))⟩,
          ⟨some 3, none, .move (.slot 11) true⟩])
         (.cond (.slot 3)
          .skip
          (.seq
           (.region [⟨some 12, none, .fieldAddr (.slot 1) 1⟩,
            ⟨some 13, none, .load (.slot 12) false 1 false⟩,
            ⟨some 14, none, .bin false .gtr (.slot 13) (.lit (.c (.d (.v (.int .i64 2)))))⟩,
            ⟨some 3, none, .move (.slot 14) true⟩])
           (.cond (.slot 3)
            .skip
            (.region [⟨some 15, none, .fieldAddr (.slot 1) 8⟩,
             ⟨some 16, none, .load (.slot 15) false 1 false⟩,
             ⟨some 17, none, .len (.slot 16)⟩,
             ⟨some 18, none, .bin false .gtr (.slot 17) (.lit (.c (.d (.v (.int .i64 255)))))⟩,
             ⟨some 3, none, .move (.slot 18) true⟩])))))))
      (.cond (.slot 3)
       (.seq
        (.region [⟨some 2, none, .move (.lit (.c (.d (.v (.bool false))))) true⟩])
        .ret)
       (.seq
        (.region [⟨some 20, none, .load (.slot 1) true 9 false⟩,
         ⟨some 21, none, .call 56 [.slot 20, .lit (.c (.d (.v (.int .i64 3))))]⟩,
         ⟨some 22, none, .move (.slot 21) false⟩,
         ⟨some 23, some (22, true), .fieldAddr (.slot 1) 3⟩,
         ⟨some 24, some (22, true), .load (.slot 23) false 1 false⟩,
         ⟨some 25, some (22, true), .call 64 [.slot 24]⟩,
         ⟨some 26, some (22, true), .un .not (.slot 25)⟩,
         ⟨some 27, none, .pick (.slot 22) (.slot 26) (.lit (.c (.d (.v (.bool false)))))⟩,
         ⟨some 19, none, .move (.slot 27) true⟩])
        (.cond (.slot 19)
         (.seq
          (.region [⟨some 2, none, .move (.lit (.c (.d (.v (.bool false))))) true⟩])
          .ret)
         .skip)))))
    (.seq
     (.region [⟨some 28, none, .fieldAddr (.slot 1) 2⟩,
      ⟨some 29, none, .load (.slot 28) false 1 false⟩,
      ⟨some 30, none, .call 65 [.slot 29]⟩,
      ⟨some 2, none, .move (.slot 30) true⟩])
     .ret)))

theorem F_attr_good : Fn Try.prog 35 Try.f35 31 [] [.t 2] c_attr_good where
  hm := by kernel_rfl
  hf := Try.func35
  hb := by kernel_rfl
  hc := by kernel_rfl
  hts := by kernel_rfl
  hnd := by decide
  hn := Nat.le_of_eq (by kernel_rfl)

def c_attr_encoded : VC :=
  (.seq
   (.region [⟨some 1, none, .box 3 9 (.slot 0)⟩,
    ⟨some 2, none, .move (.lit (.c .nilsl)) true⟩])
   (.seq
    (.region [⟨some 6, none, .build [.nilsl] []⟩,
     ⟨some 7, none, .box 15 1 (.slot 6)⟩,
     ⟨some 3, none, .move (.slot 7) true⟩])
    (.seq
     (.seq
      (.region [⟨some 4, none, .move (.lit (.c (.d (.v (.int .i64 1))))) true⟩])
      (.block 0
       (.loop
        (.seq
         (.seq
          (.region [⟨some 8, none, .move (.slot 4) false⟩,
           ⟨some 9, none, .bin false .leq (.slot 8) (.lit (.c (.d (.v (.int .i64 8)))))⟩])
          (.cond (.slot 9)
           .skip
           (.exit 0)))
         (.seq
          (.block 1
           (.seq
            (.seq
             (.region [⟨some 12, none, .load (.slot 1) true 9 false⟩,
              ⟨some 13, none, .move (.slot 4) false⟩,
              ⟨some 14, none, .call 56 [.slot 12, .slot 13]⟩,
              ⟨some 15, none, .un .not (.slot 14)⟩])
             (.cond (.slot 15)
              (.exit 1)
              .skip))
            (.seq
             (.region [⟨some 16, none, .load (.slot 1) true 9 false⟩,
              ⟨some 17, none, .move (.slot 4) false⟩,
              ⟨some 18, none, .call 66 [.slot 16, .slot 17]⟩,
              ⟨some 5, none, .move (.slot 18) true⟩])
             (.seq
              (.region [⟨some 19, none, .move (.slot 5) false⟩,
               ⟨some 20, none, .len (.slot 19)⟩,
               ⟨some 21, none, .bin false .gtr (.slot 20) (.lit (.c (.d (.v (.int .i64 255)))))⟩])
              (.cond (.slot 21)
               (.region [⟨some 22, none, .move (.slot 3) false⟩,
                ⟨some 23, none, .move (.slot 4) false⟩,
                ⟨some 24, none, .call 52 [.slot 23]⟩,
                ⟨some 25, none, .bin false .or (.slot 24) (.lit (.c (.d (.v (.int .i64 16)))))⟩,
                ⟨some 26, none, .call 45 [.slot 22, .slot 25]⟩,
                ⟨some 27, none, .move (.slot 4) false⟩,
                ⟨some 28, none, .call 45 [.slot 26, .slot 27]⟩,
                ⟨some 29, none, .move (.slot 5) false⟩,
                ⟨some 30, none, .call 67 [.slot 28, .slot 29]⟩])
               (.region [⟨some 31, none, .move (.slot 3) false⟩,
                ⟨some 32, none, .move (.slot 4) false⟩,
                ⟨some 33, none, .call 52 [.slot 32]⟩,
                ⟨some 34, none, .call 45 [.slot 31, .slot 33]⟩,
                ⟨some 35, none, .move (.slot 4) false⟩,
                ⟨some 36, none, .call 45 [.slot 34, .slot 35]⟩,
                ⟨some 37, none, .move (.slot 5) false⟩,
                ⟨some 38, none, .call 68 [.slot 36, .slot 37]⟩]))))))
          (.region [⟨some 10, none, .move (.slot 4) false⟩,
           ⟨some 11, none, .bin false .add (.slot 10) (.lit (.c (.d (.v (.int .i64 1)))))⟩,
           ⟨some 4, none, .move (.slot 11) true⟩]))))))
     (.seq
      (.region [⟨some 39, none, .move (.slot 3) false⟩,
       ⟨some 40, none, .call 50 [.slot 39]⟩,
       ⟨some 2, none, .move (.slot 40) true⟩])
      .ret))))

theorem F_attr_encoded : Fn Try.prog 36 Try.f36 41 [] [.t 2] c_attr_encoded where
  hm := by kernel_rfl
  hf := Try.func36
  hb := by kernel_rfl
  hc := by kernel_rfl
  hts := by kernel_rfl
  hnd := by decide
  hn := Nat.le_of_eq (by kernel_rfl)

def c_r08_Ways : VC :=
  (.seq
   (.region [⟨some 2, none, .move (.lit (.c (.d (.v (.bool false))))) true⟩])
   (.seq
    (.region [⟨some 3, none, .move (.lit (.c (.d (.v (.int .i64 0))))) true⟩])
    (.seq
     (.seq
      (.region [⟨some 4, none, .move (.lit (.c (.d (.v (.int .i64 0))))) true⟩])
      (.block 0
       (.loop
        (.seq
         (.seq
          (.region [⟨some 5, none, .move (.slot 4) false⟩,
           ⟨some 6, none, .move (.slot 0) false⟩,
           ⟨some 7, none, .len (.slot 6)⟩,
           ⟨some 8, none, .bin false .lss (.slot 5) (.slot 7)⟩])
          (.cond (.slot 8)
           .skip
           (.exit 0)))
         (.seq
          (.block 1
           (.region [⟨some 11, none, .move (.slot 3) false⟩,
            ⟨some 12, none, .move (.slot 0) false⟩,
            ⟨some 13, none, .move (.slot 4) false⟩,
            ⟨some 14, none, .indexAddr (.slot 12) (.slot 13) 2⟩,
            ⟨some 15, none, .fieldAddr (.slot 14) 1⟩,
            ⟨some 16, none, .load (.slot 15) false 1 false⟩,
            ⟨some 17, none, .len (.slot 16)⟩,
            ⟨some 18, none, .bin false .add (.slot 11) (.slot 17)⟩,
            ⟨some 3, none, .move (.slot 18) true⟩]))
          (.region [⟨some 9, none, .move (.slot 4) false⟩,
           ⟨some 10, none, .bin false .add (.slot 9) (.lit (.c (.d (.v (.int .i64 1)))))⟩,
           ⟨some 4, none, .move (.slot 10) true⟩]))))))
     (.seq
      (.region [⟨some 19, none, .move (.slot 0) false⟩,
       ⟨some 20, none, .call 69 [.slot 19]⟩,
       ⟨some 21, none, .move (.slot 20) false⟩,
       ⟨some 22, some (21, true), .move (.slot 3) false⟩,
       ⟨some 23, some (21, true), .bin false .leq (.slot 22) (.lit (.c (.d (.v (.int .i64 2000)))))⟩,
       ⟨some 24, none, .pick (.slot 21) (.slot 23) (.lit (.c (.d (.v (.bool false)))))⟩,
       ⟨some 2, none, .move (.slot 24) true⟩])
      .ret))))

theorem F_r08_Ways : Fn Try.prog 37 Try.f37 25 [] [.t 2] c_r08_Ways where
  hm := by kernel_rfl
  hf := Try.func37
  hb := by kernel_rfl
  hc := by kernel_rfl
  hts := by kernel_rfl
  hnd := by decide
  hn := Nat.le_of_eq (by kernel_rfl)

def c_r08_Has : VC :=
  (.seq
   (.region [⟨some 2, none, .box 5 9 (.slot 0)⟩,
    ⟨some 4, none, .move (.lit (.c (.d (.v (.bool false))))) true⟩])
   (.seq
    (.region [⟨some 5, none, .move (.slot 1) false⟩,
     ⟨some 6, none, .bin false .geq (.slot 5) (.lit (.c (.d (.v (.int .i64 0)))))⟩,
     ⟨some 7, none, .move (.slot 6) false⟩,
     ⟨some 8, some (7, true), .move (.slot 1) false⟩,
     ⟨some 9, some (7, true), .bin false .lss (.slot 8) (.lit (.c (.d (.v (.int .i64 30)))))⟩,
     ⟨some 10, none, .pick (.slot 7) (.slot 9) (.lit (.c (.d (.v (.bool false)))))⟩,
     ⟨some 11, none, .move (.slot 10) false⟩,
     ⟨some 12, some (11, true), .fieldAddr (.slot 2) 0⟩,
     ⟨some 13, some (11, true), .load (.slot 12) false 1 false⟩,
     ⟨some 14, some (11, true), .move (.slot 1) false⟩,
     ⟨some 15, some (11, true), .conv .u64 (.slot 14)⟩,
     ⟨some 16, some (11, true), .bin false .shr (.slot 13) (.slot 15)⟩,
     ⟨some 17, some (11, true), .bin false .and (.slot 16) (.lit (.c (.d (.v (.int .i64 1)))))⟩,
     ⟨some 18, some (11, true), .bin false .eql (.slot 17) (.lit (.c (.d (.v (.int .i64 1)))))⟩,
     ⟨some 19, none, .pick (.slot 11) (.slot 18) (.lit (.c (.d (.v (.bool false)))))⟩,
     ⟨some 4, none, .move (.slot 19) true⟩])
    .ret))

theorem F_r08_Has : Fn Try.prog 38 Try.f38 20 [] [.t 4] c_r08_Has where
  hm := by kernel_rfl
  hf := Try.func38
  hb := by kernel_rfl
  hc := by kernel_rfl
  hts := by kernel_rfl
  hnd := by decide
  hn := Nat.le_of_eq (by kernel_rfl)

def c_r08_Hop : VC :=
  (.seq
   (.region [⟨some 2, none, .move (.lit (.c (.d (.v (.bool false))))) true⟩])
   (.seq
    (.region [⟨some 3, none, .move (.slot 0) false⟩,
     ⟨some 4, none, .bin false .neq (.slot 3) (.lit (.c (.d (.v (.int .u32 0)))))⟩,
     ⟨some 5, none, .move (.slot 4) false⟩,
     ⟨some 6, some (5, true), .move (.slot 0) false⟩,
     ⟨some 7, some (5, true), .bin false .neq (.slot 6) (.lit (.c (.d (.v (.int .u32 4294967295)))))⟩,
     ⟨some 8, none, .pick (.slot 5) (.slot 7) (.lit (.c (.d (.v (.bool false)))))⟩,
     ⟨some 9, none, .move (.slot 8) false⟩,
     ⟨some 10, some (9, true), .move (.slot 0) false⟩,
     ⟨some 11, some (9, true), .bin false .quo (.slot 10) (.lit (.c (.d (.v (.int .u32 268435456)))))⟩,
     ⟨some 12, some (9, true), .bin false .neq (.slot 11) (.lit (.c (.d (.v (.int .u32 14)))))⟩,
     ⟨some 13, none, .pick (.slot 9) (.slot 12) (.lit (.c (.d (.v (.bool false)))))⟩,
     ⟨some 2, none, .move (.slot 13) true⟩])
    .ret))

theorem F_r08_Hop : Fn Try.prog 39 Try.f39 14 [] [.t 2] c_r08_Hop where
  hm := by kernel_rfl
  hf := Try.func39
  hb := by kernel_rfl
  hc := by kernel_rfl
  hts := by kernel_rfl
  hnd := by decide
  hn := Nat.le_of_eq (by kernel_rfl)

def c_r08_value : VC :=
  (.seq
   (.region [⟨some 2, none, .box 5 9 (.slot 0)⟩,
    ⟨some 4, none, .move (.lit (.c .nilsl)) true⟩])
   (.seq
    (.region [⟨some 9, none, .buildSlice 5 1 0 [.v (.int .u8 0)] []⟩,
     ⟨some 5, none, .move (.slot 9) true⟩])
    (.seq
     (.seq
      (.region [⟨some 10, none, .move (.slot 1) false⟩,
       ⟨some 11, none, .bin false .eql (.slot 10) (.lit (.c (.d (.v (.int .i64 1)))))⟩])
      (.cond (.slot 11)
       (.region [⟨some 12, none, .move (.slot 5) true⟩,
        ⟨some 13, none, .fieldAddr (.slot 2) 1⟩,
        ⟨some 14, none, .load (.slot 13) false 1 false⟩,
        ⟨some 15, none, .conv .u8 (.slot 14)⟩,
        ⟨some 16, none, .buildSlice 5 1 1 [.v (.int .u8 0)] [(0, .slot 15)]⟩,
        ⟨some 17, none, .append false 5 1 1 (.slot 12) (.slot 16)⟩,
        ⟨some 5, none, .move (.slot 17) true⟩])
       .skip))
     (.seq
      (.seq
       (.region [⟨some 18, none, .move (.slot 1) false⟩,
        ⟨some 19, none, .bin false .eql (.slot 18) (.lit (.c (.d (.v (.int .i64 2)))))⟩])
       (.cond (.slot 19)
        (.seq
         (.region [⟨some 6, none, .move (.lit (.c (.d (.v (.int .i64 0))))) true⟩])
         (.block 0
          (.loop
           (.seq
            (.seq
             (.region [⟨some 20, none, .move (.slot 6) false⟩,
              ⟨some 21, none, .fieldAddr (.slot 2) 2⟩,
              ⟨some 22, none, .load (.slot 21) false 1 false⟩,
              ⟨some 23, none, .len (.slot 22)⟩,
              ⟨some 24, none, .bin false .lss (.slot 20) (.slot 23)⟩])
             (.cond (.slot 24)
              .skip
              (.exit 0)))
            (.seq
             (.block 1
              (.seq
               (.draw [] [⟨some 27, none, .move (.slot 5) true⟩,
                ⟨some 28, none, .fieldAddr (.slot 2) 2⟩,
                ⟨some 29, none, .load (.slot 28) false 1 false⟩,
                ⟨some 30, none, .move (.slot 6) false⟩,
                ⟨some 31, none, .indexAddr (.slot 29) (.slot 30) 2⟩,
                ⟨some 32, none, .fieldAddr (.slot 31) 0⟩,
                ⟨some 33, none, .load (.slot 32) false 1 false⟩,
                ⟨some 34, none, .conv .u8 (.slot 33)⟩,
                ⟨some 35, none, .fieldAddr (.slot 2) 2⟩,
                ⟨some 36, none, .load (.slot 35) false 1 false⟩,
                ⟨some 37, none, .move (.slot 6) false⟩,
                ⟨some 38, none, .indexAddr (.slot 36) (.slot 37) 2⟩,
                ⟨some 39, none, .fieldAddr (.slot 38) 1⟩,
                ⟨some 40, none, .load (.slot 39) false 1 false⟩,
                ⟨some 41, none, .len (.slot 40)⟩,
                ⟨some 42, none, .conv .u8 (.slot 41)⟩,
                ⟨some 43, none, .buildSlice 5 1 2 [.v (.int .u8 0)] [(0, .slot 34), (1, .slot 42)]⟩,
                ⟨some 44, none, .append false 5 1 1 (.slot 27) (.slot 43)⟩,
                ⟨some 5, none, .move (.slot 44) true⟩])
               (.seq
                (.region [⟨some 7, none, .move (.lit (.c (.d (.v (.int .i64 0))))) true⟩])
                (.block 2
                 (.loop
                  (.seq
                   (.seq
                    (.region [⟨some 45, none, .move (.slot 7) false⟩,
                     ⟨some 46, none, .fieldAddr (.slot 2) 2⟩,
                     ⟨some 47, none, .load (.slot 46) false 1 false⟩,
                     ⟨some 48, none, .move (.slot 6) false⟩,
                     ⟨some 49, none, .indexAddr (.slot 47) (.slot 48) 2⟩,
                     ⟨some 50, none, .fieldAddr (.slot 49) 1⟩,
                     ⟨some 51, none, .load (.slot 50) false 1 false⟩,
                     ⟨some 52, none, .len (.slot 51)⟩,
                     ⟨some 53, none, .bin false .lss (.slot 45) (.slot 52)⟩])
                    (.cond (.slot 53)
                     .skip
                     (.exit 2)))
                   (.seq
                    (.block 3
                     (.region [⟨some 56, none, .move (.slot 5) true⟩,
                      ⟨some 57, none, .fieldAddr (.slot 2) 2⟩,
                      ⟨some 58, none, .load (.slot 57) false 1 false⟩,
                      ⟨some 59, none, .move (.slot 6) false⟩,
                      ⟨some 60, none, .indexAddr (.slot 58) (.slot 59) 2⟩,
                      ⟨some 61, none, .fieldAddr (.slot 60) 1⟩,
                      ⟨some 62, none, .load (.slot 61) false 1 false⟩,
                      ⟨some 63, none, .move (.slot 7) false⟩,
                      ⟨some 64, none, .indexAddr (.slot 62) (.slot 63) 1⟩,
                      ⟨some 65, none, .load (.slot 64) false 1 false⟩,
                      ⟨some 66, none, .conv .u64 (.slot 65)⟩,
                      ⟨some 67, none, .call 41 [.slot 66, .lit (.c (.d (.v (.int .i64 4))))]⟩,
                      ⟨some 68, none, .append false 5 1 1 (.slot 56) (.slot 67)⟩,
                      ⟨some 5, none, .move (.slot 68) true⟩]))
                    (.region [⟨some 54, none, .move (.slot 7) false⟩,
                     ⟨some 55, none, .bin false .add (.slot 54) (.lit (.c (.d (.v (.int .i64 1)))))⟩,
                     ⟨some 7, none, .move (.slot 55) true⟩]))))))))
             (.region [⟨some 25, none, .move (.slot 6) false⟩,
              ⟨some 26, none, .bin false .add (.slot 25) (.lit (.c (.d (.v (.int .i64 1)))))⟩,
              ⟨some 6, none, .move (.slot 26) true⟩]))))))
        .skip))
      (.seq
       (.seq
        (.region [⟨some 69, none, .move (.slot 1) false⟩,
         ⟨some 70, none, .bin false .eql (.slot 69) (.lit (.c (.d (.v (.int .i64 3)))))⟩])
        (.cond (.slot 70)
         (.region [⟨some 71, none, .fieldAddr (.slot 2) 3⟩,
          ⟨some 72, none, .load (.slot 71) false 1 false⟩,
          ⟨some 73, none, .conv .u64 (.slot 72)⟩,
          ⟨some 74, none, .call 41 [.slot 73, .lit (.c (.d (.v (.int .i64 4))))]⟩,
          ⟨some 5, none, .move (.slot 74) true⟩])
         .skip))
       (.seq
        (.seq
         (.region [⟨some 75, none, .move (.slot 1) false⟩,
          ⟨some 76, none, .bin false .eql (.slot 75) (.lit (.c (.d (.v (.int .i64 4)))))⟩])
         (.cond (.slot 76)
          (.region [⟨some 77, none, .fieldAddr (.slot 2) 4⟩,
           ⟨some 78, none, .load (.slot 77) false 1 false⟩,
           ⟨some 79, none, .conv .u64 (.slot 78)⟩,
           ⟨some 80, none, .call 41 [.slot 79, .lit (.c (.d (.v (.int .i64 4))))]⟩,
           ⟨some 5, none, .move (.slot 80) true⟩])
          .skip))
        (.seq
         (.seq
          (.region [⟨some 81, none, .move (.slot 1) false⟩,
           ⟨some 82, none, .bin false .eql (.slot 81) (.lit (.c (.d (.v (.int .i64 5)))))⟩])
          (.cond (.slot 82)
           (.region [⟨some 83, none, .fieldAddr (.slot 2) 5⟩,
            ⟨some 84, none, .load (.slot 83) false 1 false⟩,
            ⟨some 85, none, .conv .u64 (.slot 84)⟩,
            ⟨some 86, none, .call 41 [.slot 85, .lit (.c (.d (.v (.int .i64 4))))]⟩,
            ⟨some 5, none, .move (.slot 86) true⟩])
           .skip))
         (.seq
          (.seq
           (.region [⟨some 87, none, .move (.slot 1) false⟩,
            ⟨some 88, none, .bin false .eql (.slot 87) (.lit (.c (.d (.v (.int .i64 7)))))⟩])
           (.cond (.slot 88)
            (.draw [(3, 5)] [⟨some 89, none, .fieldAddr (.slot 2) 6⟩,
             ⟨some 90, none, .load (.slot 89) false 1 false⟩,
             ⟨some 91, none, .conv .u64 (.slot 90)⟩,
             ⟨some 92, none, .call 41 [.slot 91, .lit (.c (.d (.v (.int .i64 4))))]⟩,
             ⟨some 93, none, .fieldAddr (.slot 2) 7⟩,
             ⟨some 94, none, .load (.slot 93) false 1 false⟩,
             ⟨some 95, none, .conv .u64 (.slot 94)⟩,
             ⟨some 96, none, .call 41 [.slot 95, .lit (.c (.d (.v (.int .i64 4))))]⟩,
             ⟨some 97, none, .append false 5 1 1 (.slot 92) (.slot 96)⟩,
             ⟨some 5, none, .move (.slot 97) true⟩])
            .skip))
          (.seq
           (.seq
            (.region [⟨some 8, none, .move (.lit (.c (.d (.v (.int .i64 0))))) true⟩])
            (.block 4
             (.loop
              (.seq
               (.seq
                (.region [⟨some 98, none, .move (.slot 1) false⟩,
                 ⟨some 99, none, .bin false .eql (.slot 98) (.lit (.c (.d (.v (.int .i64 8)))))⟩,
                 ⟨some 100, none, .move (.slot 99) false⟩,
                 ⟨some 101, some (100, true), .move (.slot 8) false⟩,
                 ⟨some 102, some (100, true), .fieldAddr (.slot 2) 8⟩,
                 ⟨some 103, some (100, true), .load (.slot 102) false 1 false⟩,
                 ⟨some 104, some (100, true), .len (.slot 103)⟩,
                 ⟨some 105, some (100, true), .bin false .lss (.slot 101) (.slot 104)⟩,
                 ⟨some 106, none, .pick (.slot 100) (.slot 105) (.lit (.c (.d (.v (.bool false)))))⟩])
                (.cond (.slot 106)
                 .skip
                 (.exit 4)))
               (.seq
                (.block 5
                 (.region [⟨some 109, none, .move (.slot 5) true⟩,
                  ⟨some 110, none, .fieldAddr (.slot 2) 8⟩,
                  ⟨some 111, none, .load (.slot 110) false 1 false⟩,
                  ⟨some 112, none, .move (.slot 8) false⟩,
                  ⟨some 113, none, .indexAddr (.slot 111) (.slot 112) 1⟩,
                  ⟨some 114, none, .load (.slot 113) false 1 false⟩,
                  ⟨some 115, none, .conv .u64 (.slot 114)⟩,
                  ⟨some 116, none, .call 41 [.slot 115, .lit (.c (.d (.v (.int .i64 4))))]⟩,
                  ⟨some 117, none, .append false 5 1 1 (.slot 109) (.slot 116)⟩,
                  ⟨some 5, none, .move (.slot 117) true⟩]))
                (.region [⟨some 107, none, .move (.slot 8) false⟩,
                 ⟨some 108, none, .bin false .add (.slot 107) (.lit (.c (.d (.v (.int .i64 1)))))⟩,
                 ⟨some 8, none, .move (.slot 108) true⟩]))))))
           (.seq
            (.region [⟨some 118, none, .move (.slot 5) true⟩,
             ⟨some 4, none, .move (.slot 118) true⟩])
            .ret))))))))))

theorem F_r08_value : Fn Try.prog 40 Try.f40 119 [12,27,56,109,118] [.t 4] c_r08_value where
  hm := by kernel_rfl
  hf := Try.func40
  hb := by kernel_rfl
  hc := by kernel_rfl
  hts := by kernel_rfl
  hnd := by decide
  hn := Nat.le_of_eq (by kernel_rfl)

def c_r06_Big : VC :=
  (.seq
   (.region [⟨some 4, none, .move (.lit (.c .nilsl)) true⟩])
   (.seq
    (.region [⟨some 7, none, .buildSlice 5 1 0 [.v (.int .u8 0)] []⟩,
     ⟨some 5, none, .move (.slot 7) true⟩])
    (.seq
     (.seq
      (.region [⟨some 6, none, .move (.lit (.c (.d (.v (.int .i64 0))))) true⟩])
      (.block 0
       (.loop
        (.seq
         (.seq
          (.region [⟨some 8, none, .move (.slot 6) false⟩,
           ⟨some 9, none, .move (.slot 1) false⟩,
           ⟨some 10, none, .bin false .lss (.slot 8) (.slot 9)⟩])
          (.cond (.slot 10)
           .skip
           (.exit 0)))
         (.seq
          (.block 1
           (.seq
            (.region [⟨some 13, none, .move (.slot 0) false⟩,
             ⟨some 14, none, .bin false .rem (.slot 13) (.lit (.c (.d (.v (.int .u64 256)))))⟩,
             ⟨some 15, none, .conv .u8 (.slot 14)⟩,
             ⟨some 16, none, .buildSlice 5 1 1 [.v (.int .u8 0)] [(0, .slot 15)]⟩,
             ⟨some 17, none, .move (.slot 5) false⟩,
             ⟨some 18, none, .append false 5 1 1 (.slot 16) (.slot 17)⟩,
             ⟨some 5, none, .move (.slot 18) true⟩])
            (.region [⟨some 19, none, .move (.slot 0) false⟩,
             ⟨some 20, none, .bin false .quo (.slot 19) (.lit (.c (.d (.v (.int .u64 256)))))⟩,
             ⟨some 0, none, .move (.slot 20) true⟩])))
          (.region [⟨some 11, none, .move (.slot 6) false⟩,
           ⟨some 12, none, .bin false .add (.slot 11) (.lit (.c (.d (.v (.int .i64 1)))))⟩,
           ⟨some 6, none, .move (.slot 12) true⟩]))))))
     (.seq
      (.region [⟨some 21, none, .move (.slot 5) true⟩,
       ⟨some 4, none, .move (.slot 21) true⟩])
      .ret))))

theorem F_r06_Big : Fn Try.prog 41 Try.f41 22 [21] [.t 4] c_r06_Big where
  hm := by kernel_rfl
  hf := Try.func41
  hb := by kernel_rfl
  hc := by kernel_rfl
  hts := by kernel_rfl
  hnd := by decide
  hn := Nat.le_of_eq (by kernel_rfl)

def c_bytes_Clone : VC :=
  (.seq
   (.region [⟨some 2, none, .move (.lit (.c .nilsl)) true⟩])
   (.seq
    (.seq
     (.nilq [⟨some 3, none, .move (.slot 0) false⟩] 4 false (.slot 3))
     (.cond (.slot 4)
      (.seq
       (.region [⟨some 2, none, .move (.lit (.c .nilsl)) true⟩])
       .ret)
      .skip))
    (.seq
     (.region [⟨some 5, none, .buildSlice 5 1 0 [.v (.int .u8 0)] []⟩,
      ⟨some 6, none, .move (.slot 0) false⟩,
      ⟨some 7, none, .append false 5 1 1 (.slot 5) (.slot 6)⟩,
      ⟨some 2, none, .move (.slot 7) true⟩])
     .ret)))

theorem F_bytes_Clone : Fn Try.prog 42 Try.f42 8 [] [.t 2] c_bytes_Clone where
  hm := by kernel_rfl
  hf := Try.func42
  hb := by kernel_rfl
  hc := by kernel_rfl
  hts := by kernel_rfl
  hnd := by decide
  hn := Nat.le_of_eq (by kernel_rfl)

def c_octet_Reader_left : VC :=
  (.seq
   (.region [⟨some 2, none, .move (.lit (.c (.d (.v (.int .i64 0))))) true⟩])
   (.seq
    (.seq
     (.region [⟨some 3, none, .move (.slot 0) false⟩,
      ⟨some 4, none, .isNil false (.slot 3)⟩])
     (.cond (.slot 4)
      (.seq
       (.region [⟨some 2, none, .move (.lit (.c (.d (.v (.int .i64 0))))) true⟩])
       .ret)
      .skip))
    (.seq
     (.region [⟨some 5, none, .move (.slot 0) false⟩,
      ⟨some 6, none, .nilCheck (.slot 5)⟩,
      ⟨some 7, none, .fieldAddr (.slot 6) 0⟩,
      ⟨some 8, none, .load (.slot 7) false 1 false⟩,
      ⟨some 9, none, .len (.slot 8)⟩,
      ⟨some 2, none, .move (.slot 9) true⟩])
     .ret)))

theorem F_octet_Reader_left : Fn Try.prog 43 Try.f43 10 [] [.t 2] c_octet_Reader_left where
  hm := by kernel_rfl
  hf := Try.func43
  hb := by kernel_rfl
  hc := by kernel_rfl
  hts := by kernel_rfl
  hnd := by decide
  hn := Nat.le_of_eq (by kernel_rfl)

def c_octet_Reader_U8 : VC :=
  (.seq
   (.region [⟨some 2, none, .move (.lit (.c (.d (.v (.int .i64 0))))) true⟩])
   (.seq
    (.region [⟨some 3, none, .move (.slot 0) false⟩,
     ⟨some 4, none, .call 70 [.slot 3, .lit (.c (.d (.v (.int .i64 1))))]⟩,
     ⟨some 5, none, .conv .i64 (.slot 4)⟩,
     ⟨some 2, none, .move (.slot 5) true⟩])
    .ret))

theorem F_octet_Reader_U8 : Fn Try.prog 44 Try.f44 6 [] [.t 2] c_octet_Reader_U8 where
  hm := by kernel_rfl
  hf := Try.func44
  hb := by kernel_rfl
  hc := by kernel_rfl
  hts := by kernel_rfl
  hnd := by decide
  hn := Nat.le_of_eq (by kernel_rfl)

def c_octet_Writer_U8 : VC :=
  (.seq
   (.region [⟨some 4, none, .move (.lit (.c (.d (.v (.pointer none))))) true⟩])
   (.seq
    (.region [⟨some 5, none, .move (.slot 0) false⟩,
     ⟨some 6, none, .move (.slot 1) false⟩,
     ⟨some 7, none, .conv .u8 (.slot 6)⟩,
     ⟨some 8, none, .buildSlice 5 1 1 [.v (.int .u8 0)] [(0, .slot 7)]⟩,
     ⟨some 9, none, .call 71 [.slot 5, .slot 8]⟩,
     ⟨some 4, none, .move (.slot 9) true⟩])
    .ret))

theorem F_octet_Writer_U8 : Fn Try.prog 45 Try.f45 10 [] [.t 4] c_octet_Writer_U8 where
  hm := by kernel_rfl
  hf := Try.func45
  hb := by kernel_rfl
  hc := by kernel_rfl
  hts := by kernel_rfl
  hnd := by decide
  hn := Nat.le_of_eq (by kernel_rfl)

def c_octet_Reader_U16 : VC :=
  (.seq
   (.region [⟨some 2, none, .move (.lit (.c (.d (.v (.int .i64 0))))) true⟩])
   (.seq
    (.region [⟨some 3, none, .move (.slot 0) false⟩,
     ⟨some 4, none, .call 70 [.slot 3, .lit (.c (.d (.v (.int .i64 2))))]⟩,
     ⟨some 5, none, .conv .i64 (.slot 4)⟩,
     ⟨some 2, none, .move (.slot 5) true⟩])
    .ret))

theorem F_octet_Reader_U16 : Fn Try.prog 46 Try.f46 6 [] [.t 2] c_octet_Reader_U16 where
  hm := by kernel_rfl
  hf := Try.func46
  hb := by kernel_rfl
  hc := by kernel_rfl
  hts := by kernel_rfl
  hnd := by decide
  hn := Nat.le_of_eq (by kernel_rfl)

def c_octet_Writer_U16 : VC :=
  (.seq
   (.region [⟨some 4, none, .move (.lit (.c (.d (.v (.pointer none))))) true⟩])
   (.seq
    (.region [⟨some 5, none, .move (.slot 0) false⟩,
     ⟨some 6, none, .move (.slot 1) false⟩,
     ⟨some 7, none, .bin false .shr (.slot 6) (.lit (.c (.d (.v (.int .u64 8)))))⟩,
     ⟨some 8, none, .conv .u8 (.slot 7)⟩,
     ⟨some 9, none, .move (.slot 1) false⟩,
     ⟨some 10, none, .conv .u8 (.slot 9)⟩,
     ⟨some 11, none, .buildSlice 5 1 2 [.v (.int .u8 0)] [(0, .slot 8), (1, .slot 10)]⟩,
     ⟨some 12, none, .call 71 [.slot 5, .slot 11]⟩,
     ⟨some 4, none, .move (.slot 12) true⟩])
    .ret))

theorem F_octet_Writer_U16 : Fn Try.prog 47 Try.f47 13 [] [.t 4] c_octet_Writer_U16 where
  hm := by kernel_rfl
  hf := Try.func47
  hb := by kernel_rfl
  hc := by kernel_rfl
  hts := by kernel_rfl
  hnd := by decide
  hn := Nat.le_of_eq (by kernel_rfl)

def c_octet_Reader_Take : VC :=
  (.seq
   (.region [⟨some 4, none, .move (.lit (.c .nilsl)) true⟩])
   (.seq
    (.region [⟨some 8, none, .move (.slot 0) false⟩,
     ⟨some 9, none, .move (.slot 1) false⟩,
     ⟨some 10, none, .call 72 [.slot 8, .slot 9]⟩,
     ⟨some 7, none, .move (.slot 10) false⟩,
     ⟨some 11, none, .extract (.slot 7) 0 false⟩,
     ⟨some 12, none, .extract (.slot 7) 1 false⟩,
     ⟨some 5, none, .move (.slot 11) true⟩,
     ⟨some 6, none, .move (.slot 12) true⟩])
    (.seq
     (.region [⟨some 13, none, .move (.slot 5) false⟩,
      ⟨some 14, none, .call 42 [.slot 13]⟩,
      ⟨some 4, none, .move (.slot 14) true⟩])
     .ret)))

theorem F_octet_Reader_Take : Fn Try.prog 48 Try.f48 15 [] [.t 4] c_octet_Reader_Take where
  hm := by kernel_rfl
  hf := Try.func48
  hb := by kernel_rfl
  hc := by kernel_rfl
  hts := by kernel_rfl
  hnd := by decide
  hn := Nat.le_of_eq (by kernel_rfl)

def c_octet_Writer_Put : VC :=
  (.seq
   (.region [⟨some 4, none, .move (.lit (.c (.d (.v (.pointer none))))) true⟩])
   (.seq
    (.region [⟨some 5, none, .move (.slot 0) false⟩,
     ⟨some 6, none, .move (.slot 1) false⟩,
     ⟨some 7, none, .call 71 [.slot 5, .slot 6]⟩,
     ⟨some 4, none, .move (.slot 7) true⟩])
    .ret))

theorem F_octet_Writer_Put : Fn Try.prog 49 Try.f49 8 [] [.t 4] c_octet_Writer_Put where
  hm := by kernel_rfl
  hf := Try.func49
  hb := by kernel_rfl
  hc := by kernel_rfl
  hts := by kernel_rfl
  hnd := by decide
  hn := Nat.le_of_eq (by kernel_rfl)

def c_octet_Writer_Bytes : VC :=
  (.seq
   (.region [⟨some 2, none, .move (.lit (.c .nilsl)) true⟩])
   (.seq
    (.seq
     (.region [⟨some 3, none, .move (.slot 0) false⟩,
      ⟨some 4, none, .isNil false (.slot 3)⟩])
     (.cond (.slot 4)
      (.seq
       (.region [⟨some 2, none, .move (.lit (.c .nilsl)) true⟩])
       .ret)
      .skip))
    (.seq
     (.region [⟨some 5, none, .move (.slot 0) false⟩,
      ⟨some 6, none, .nilCheck (.slot 5)⟩,
      ⟨some 7, none, .fieldAddr (.slot 6) 0⟩,
      ⟨some 8, none, .load (.slot 7) false 1 false⟩,
      ⟨some 9, none, .call 42 [.slot 8]⟩,
      ⟨some 2, none, .move (.slot 9) true⟩])
     .ret)))

theorem F_octet_Writer_Bytes : Fn Try.prog 50 Try.f50 10 [] [.t 2] c_octet_Writer_Bytes where
  hm := by kernel_rfl
  hf := Try.func50
  hb := by kernel_rfl
  hc := by kernel_rfl
  hts := by kernel_rfl
  hnd := by decide
  hn := Nat.le_of_eq (by kernel_rfl)

def c_octet_Reader_Bad : VC :=
  (.seq
   (.region [⟨some 2, none, .move (.lit (.c (.d (.v (.bool false))))) true⟩])
   (.seq
    (.region [⟨some 3, none, .move (.slot 0) false⟩,
     ⟨some 4, none, .isNil false (.slot 3)⟩,
     ⟨some 5, none, .move (.slot 4) false⟩,
     ⟨some 6, some (5, false), .move (.slot 0) false⟩,
     ⟨some 7, some (5, false), .nilCheck (.slot 6)⟩,
     ⟨some 8, some (5, false), .fieldAddr (.slot 7) 1⟩,
     ⟨some 9, some (5, false), .load (.slot 8) false 1 false⟩,
     ⟨some 10, none, .pick (.slot 5) (.lit (.c (.d (.v (.bool true))))) (.slot 9)⟩,
     ⟨some 2, none, .move (.slot 10) true⟩])
    .ret))

theorem F_octet_Reader_Bad : Fn Try.prog 51 Try.f51 11 [] [.t 2] c_octet_Reader_Bad where
  hm := by kernel_rfl
  hf := Try.func51
  hb := by kernel_rfl
  hc := by kernel_rfl
  hts := by kernel_rfl
  hnd := by decide
  hn := Nat.le_of_eq (by kernel_rfl)

def c_attr_flags : VC :=
  (.seq
   (.region [⟨some 2, none, .move (.lit (.c (.d (.v (.int .i64 0))))) true⟩])
   (.seq
    (.seq
     (.region [⟨some 3, none, .move (.slot 0) false⟩])
     (.block 0
      (.seq
       (.seq
        (.region [⟨some 5, none, .bin false .eql (.slot 3) (.lit (.c (.d (.v (.int .i64 1)))))⟩,
         ⟨some 4, none, .move (.slot 5) true⟩])
        (.cond (.slot 4)
         .skip
         (.seq
          (.region [⟨some 6, none, .bin false .eql (.slot 3) (.lit (.c (.d (.v (.int .i64 2)))))⟩,
           ⟨some 4, none, .move (.slot 6) true⟩])
          (.cond (.slot 4)
           .skip
           (.seq
            (.region [⟨some 7, none, .bin false .eql (.slot 3) (.lit (.c (.d (.v (.int .i64 3)))))⟩,
             ⟨some 4, none, .move (.slot 7) true⟩])
            (.cond (.slot 4)
             .skip
             (.seq
              (.region [⟨some 8, none, .bin false .eql (.slot 3) (.lit (.c (.d (.v (.int .i64 5)))))⟩,
               ⟨some 4, none, .move (.slot 8) true⟩])
              (.cond (.slot 4)
               .skip
               (.region [⟨some 9, none, .bin false .eql (.slot 3) (.lit (.c (.d (.v (.int .i64 6)))))⟩,
                ⟨some 4, none, .move (.slot 9) true⟩])))))))))
       (.cond (.slot 4)
        (.seq
         (.region [⟨some 2, none, .move (.lit (.c (.d (.v (.int .i64 64))))) true⟩])
         .ret)
        (.seq
         (.region [⟨some 11, none, .bin false .eql (.slot 3) (.lit (.c (.d (.v (.int .i64 4)))))⟩,
          ⟨some 10, none, .move (.slot 11) true⟩])
         (.cond (.slot 10)
          (.seq
           (.region [⟨some 2, none, .move (.lit (.c (.d (.v (.int .i64 128))))) true⟩])
           .ret)
          (.seq
           (.seq
            (.region [⟨some 13, none, .bin false .eql (.slot 3) (.lit (.c (.d (.v (.int .i64 7)))))⟩,
             ⟨some 12, none, .move (.slot 13) true⟩])
            (.cond (.slot 12)
             .skip
             (.region [⟨some 14, none, .bin false .eql (.slot 3) (.lit (.c (.d (.v (.int .i64 8)))))⟩,
              ⟨some 12, none, .move (.slot 14) true⟩])))
           (.cond (.slot 12)
            (.seq
             (.region [⟨some 2, none, .move (.lit (.c (.d (.v (.int .i64 192))))) true⟩])
             .ret)
            .skip))))))))
    (.seq
     (.region [⟨some 2, none, .move (.lit (.c (.d (.v (.int .i64 0))))) true⟩])
     .ret)))

theorem F_attr_flags : Fn Try.prog 52 Try.f52 15 [] [.t 2] c_attr_flags where
  hm := by kernel_rfl
  hf := Try.func52
  hb := by kernel_rfl
  hc := by kernel_rfl
  hts := by kernel_rfl
  hnd := by decide
  hn := Nat.le_of_eq (by kernel_rfl)

def c_attr_one_flagged : VC :=
  (.seq
   (.region [⟨some 1, none, .box 3 4 (.slot 0)⟩,
    ⟨some 2, none, .move (.lit (.c (.d (.v (.bool false))))) true⟩])
   (.seq
    (.region [⟨some 4, none, .fieldAddr (.slot 1) 0⟩,
     ⟨some 5, none, .load (.slot 4) false 1 false⟩,
     ⟨some 6, none, .bin false .andNot (.slot 5) (.lit (.c (.d (.v (.int .i64 16)))))⟩,
     ⟨some 3, none, .move (.slot 6) true⟩])
    (.seq
     (.seq
      (.region [⟨some 7, none, .fieldAddr (.slot 1) 1⟩,
       ⟨some 8, none, .load (.slot 7) false 1 false⟩,
       ⟨some 9, none, .bin false .eql (.slot 8) (.lit (.c (.d (.v (.int .i64 7)))))⟩,
       ⟨some 10, none, .move (.slot 9) false⟩,
       ⟨some 11, some (10, false), .fieldAddr (.slot 1) 1⟩,
       ⟨some 12, some (10, false), .load (.slot 11) false 1 false⟩,
       ⟨some 13, some (10, false), .bin false .eql (.slot 12) (.lit (.c (.d (.v (.int .i64 8)))))⟩,
       ⟨some 14, none, .pick (.slot 10) (.lit (.c (.d (.v (.bool true))))) (.slot 13)⟩])
      (.cond (.slot 14)
       (.region [⟨some 15, none, .move (.slot 3) false⟩,
        ⟨some 16, none, .bin false .andNot (.slot 15) (.lit (.c (.d (.v (.int .i64 32)))))⟩,
        ⟨some 3, none, .move (.slot 16) true⟩])
       .skip))
     (.seq
      (.region [⟨some 17, none, .move (.slot 3) false⟩,
       ⟨some 18, none, .fieldAddr (.slot 1) 1⟩,
       ⟨some 19, none, .load (.slot 18) false 1 false⟩,
       ⟨some 20, none, .call 52 [.slot 19]⟩,
       ⟨some 21, none, .bin false .eql (.slot 17) (.slot 20)⟩,
       ⟨some 2, none, .move (.slot 21) true⟩])
      .ret))))

theorem F_attr_one_flagged : Fn Try.prog 53 Try.f53 22 [] [.t 2] c_attr_one_flagged where
  hm := by kernel_rfl
  hf := Try.func53
  hb := by kernel_rfl
  hc := by kernel_rfl
  hts := by kernel_rfl
  hnd := by decide
  hn := Nat.le_of_eq (by kernel_rfl)

def c_attr_one_long : VC :=
  (.seq
   (.region [⟨some 1, none, .box 3 4 (.slot 0)⟩,
    ⟨some 2, none, .move (.lit (.c (.d (.v (.bool false))))) true⟩])
   (.seq
    (.region [⟨some 4, none, .fieldAddr (.slot 1) 2⟩,
     ⟨some 5, none, .load (.slot 4) false 1 false⟩,
     ⟨some 6, none, .len (.slot 5)⟩,
     ⟨some 3, none, .move (.slot 6) true⟩])
    (.seq
     (.seq
      (.region [⟨some 7, none, .fieldAddr (.slot 1) 1⟩,
       ⟨some 8, none, .load (.slot 7) false 1 false⟩])
      (.block 0
       (.seq
        (.region [⟨some 10, none, .bin false .eql (.slot 8) (.lit (.c (.d (.v (.int .i64 1)))))⟩,
         ⟨some 9, none, .move (.slot 10) true⟩])
        (.cond (.slot 9)
         (.seq
          (.region [⟨some 11, none, .move (.slot 3) false⟩,
           ⟨some 12, none, .bin false .eql (.slot 11) (.lit (.c (.d (.v (.int .i64 1)))))⟩,
           ⟨some 2, none, .move (.slot 12) true⟩])
          .ret)
         (.seq
          (.seq
           (.region [⟨some 14, none, .bin false .eql (.slot 8) (.lit (.c (.d (.v (.int .i64 3)))))⟩,
            ⟨some 13, none, .move (.slot 14) true⟩])
           (.cond (.slot 13)
            .skip
            (.seq
             (.region [⟨some 15, none, .bin false .eql (.slot 8) (.lit (.c (.d (.v (.int .i64 4)))))⟩,
              ⟨some 13, none, .move (.slot 15) true⟩])
             (.cond (.slot 13)
              .skip
              (.region [⟨some 16, none, .bin false .eql (.slot 8) (.lit (.c (.d (.v (.int .i64 5)))))⟩,
               ⟨some 13, none, .move (.slot 16) true⟩])))))
          (.cond (.slot 13)
           (.seq
            (.region [⟨some 17, none, .move (.slot 3) false⟩,
             ⟨some 18, none, .bin false .eql (.slot 17) (.lit (.c (.d (.v (.int .i64 4)))))⟩,
             ⟨some 2, none, .move (.slot 18) true⟩])
            .ret)
           (.seq
            (.region [⟨some 20, none, .bin false .eql (.slot 8) (.lit (.c (.d (.v (.int .i64 6)))))⟩,
             ⟨some 19, none, .move (.slot 20) true⟩])
            (.cond (.slot 19)
             (.seq
              (.region [⟨some 21, none, .move (.slot 3) false⟩,
               ⟨some 22, none, .bin false .eql (.slot 21) (.lit (.c (.d (.v (.int .i64 0)))))⟩,
               ⟨some 2, none, .move (.slot 22) true⟩])
              .ret)
             (.seq
              (.region [⟨some 24, none, .bin false .eql (.slot 8) (.lit (.c (.d (.v (.int .i64 7)))))⟩,
               ⟨some 23, none, .move (.slot 24) true⟩])
              (.cond (.slot 23)
               (.seq
                (.region [⟨some 25, none, .move (.slot 3) false⟩,
                 ⟨some 26, none, .bin false .eql (.slot 25) (.lit (.c (.d (.v (.int .i64 8)))))⟩,
                 ⟨some 2, none, .move (.slot 26) true⟩])
                .ret)
               (.seq
                (.region [⟨some 28, none, .bin false .eql (.slot 8) (.lit (.c (.d (.v (.int .i64 8)))))⟩,
                 ⟨some 27, none, .move (.slot 28) true⟩])
                (.cond (.slot 27)
                 (.seq
                  (.region [⟨some 29, none, .move (.slot 3) false⟩,
                   ⟨some 30, none, .bin false .rem (.slot 29) (.lit (.c (.d (.v (.int .i64 4)))))⟩,
                   ⟨some 31, none, .bin false .eql (.slot 30) (.lit (.c (.d (.v (.int .i64 0)))))⟩,
                   ⟨some 32, none, .move (.slot 31) false⟩,
                   ⟨some 33, some (32, true), .move (.slot 3) false⟩,
                   ⟨some 34, some (32, true), .bin false .leq (.slot 33) (.lit (.c (.d (.v (.int .i64 1020)))))⟩,
                   ⟨some 35, none, .pick (.slot 32) (.slot 34) (.lit (.c (.d (.v (.bool false)))))⟩,
                   ⟨some 2, none, .move (.slot 35) true⟩])
                  .ret)
                 .skip))))))))))))
     (.seq
      (.region [⟨some 2, none, .move (.lit (.c (.d (.v (.bool true))))) true⟩])
      .ret))))

theorem F_attr_one_long : Fn Try.prog 54 Try.f54 36 [] [.t 2] c_attr_one_long where
  hm := by kernel_rfl
  hf := Try.func54
  hb := by kernel_rfl
  hc := by kernel_rfl
  hts := by kernel_rfl
  hnd := by decide
  hn := Nat.le_of_eq (by kernel_rfl)

def c_attr_one_lay : VC :=
  (.seq
   (.region [⟨some 2, none, .box 5 4 (.slot 0)⟩,
    ⟨some 4, none, .move (.lit (.c (.d (.v (.int .i64 0))))) true⟩])
   (.seq
    (.region [⟨some 8, none, .fieldAddr (.slot 2) 2⟩,
     ⟨some 9, none, .load (.slot 8) false 1 false⟩,
     ⟨some 10, none, .call 20 [.slot 9]⟩,
     ⟨some 5, none, .move (.slot 10) true⟩])
    (.seq
     (.seq
      (.region [⟨some 11, none, .fieldAddr (.slot 2) 1⟩,
       ⟨some 12, none, .load (.slot 11) false 1 false⟩])
      (.block 0
       (.seq
        (.region [⟨some 14, none, .bin false .eql (.slot 12) (.lit (.c (.d (.v (.int .i64 1)))))⟩,
         ⟨some 13, none, .move (.slot 14) true⟩])
        (.cond (.slot 13)
         (.seq
          (.region [⟨some 15, none, .move (.slot 1) false⟩,
           ⟨some 16, none, .move (.slot 5) false⟩,
           ⟨some 17, none, .call 44 [.slot 16]⟩,
           ⟨some 18, none, .nilCheck (.slot 15)⟩,
           ⟨some 19, none, .fieldAddr (.slot 18) 1⟩,
           ⟨none, none, .store (.slot 19) (.slot 17) 1⟩])
          (.seq
           (.region [⟨some 20, none, .move (.slot 1) false⟩,
            ⟨some 21, none, .nilCheck (.slot 20)⟩,
            ⟨some 22, none, .fieldAddr (.slot 21) 1⟩,
            ⟨some 23, none, .load (.slot 22) false 1 false⟩,
            ⟨some 24, none, .bin false .gtr (.slot 23) (.lit (.c (.d (.v (.int .i64 2)))))⟩])
           (.cond (.slot 24)
            (.seq
             (.region [⟨some 4, none, .move (.lit (.c (.d (.v (.int .i64 6))))) true⟩])
             .ret)
            .skip)))
         (.seq
          (.region [⟨some 26, none, .bin false .eql (.slot 12) (.lit (.c (.d (.v (.int .i64 2)))))⟩,
           ⟨some 25, none, .move (.slot 26) true⟩])
          (.cond (.slot 25)
           (.seq
            (.region [⟨some 28, none, .fieldAddr (.slot 2) 2⟩,
             ⟨some 29, none, .load (.slot 28) false 1 false⟩,
             ⟨some 30, none, .call 32 [.slot 29]⟩,
             ⟨some 27, none, .move (.slot 30) false⟩,
             ⟨some 31, none, .extract (.slot 27) 0 false⟩,
             ⟨some 32, none, .extract (.slot 27) 1 false⟩,
             ⟨some 6, none, .move (.slot 31) true⟩,
             ⟨some 7, none, .move (.slot 32) true⟩])
            (.seq
             (.region [⟨some 33, none, .move (.slot 1) false⟩,
              ⟨some 34, none, .move (.slot 6) false⟩,
              ⟨some 35, none, .call 57 [.slot 34]⟩,
              ⟨some 36, none, .nilCheck (.slot 33)⟩,
              ⟨some 37, none, .fieldAddr (.slot 36) 2⟩,
              ⟨none, none, .store (.slot 37) (.slot 35) 1⟩])
             (.seq
              (.region [⟨some 38, none, .move (.slot 7) false⟩,
               ⟨some 39, none, .un .not (.slot 38)⟩,
               ⟨some 40, none, .move (.slot 39) false⟩,
               ⟨some 41, some (40, false), .move (.slot 1) false⟩,
               ⟨some 42, some (40, false), .nilCheck (.slot 41)⟩,
               ⟨some 43, some (40, false), .fieldAddr (.slot 42) 2⟩,
               ⟨some 44, some (40, false), .load (.slot 43) false 1 false⟩,
               ⟨some 45, some (40, false), .call 65 [.slot 44]⟩,
               ⟨some 46, some (40, false), .un .not (.slot 45)⟩,
               ⟨some 47, none, .pick (.slot 40) (.lit (.c (.d (.v (.bool true))))) (.slot 46)⟩])
              (.cond (.slot 47)
               (.seq
                (.region [⟨some 4, none, .move (.lit (.c (.d (.v (.int .i64 11))))) true⟩])
                .ret)
               .skip))))
           (.seq
            (.region [⟨some 49, none, .bin false .eql (.slot 12) (.lit (.c (.d (.v (.int .i64 3)))))⟩,
             ⟨some 48, none, .move (.slot 49) true⟩])
            (.cond (.slot 48)
             (.seq
              (.region [⟨some 50, none, .move (.slot 1) false⟩,
               ⟨some 51, none, .move (.slot 5) false⟩,
               ⟨some 52, none, .call 62 [.slot 51]⟩,
               ⟨some 53, none, .nilCheck (.slot 50)⟩,
               ⟨some 54, none, .fieldAddr (.slot 53) 3⟩,
               ⟨none, none, .store (.slot 54) (.slot 52) 1⟩])
              (.seq
               (.region [⟨some 55, none, .move (.slot 1) false⟩,
                ⟨some 56, none, .nilCheck (.slot 55)⟩,
                ⟨some 57, none, .fieldAddr (.slot 56) 3⟩,
                ⟨some 58, none, .load (.slot 57) false 1 false⟩,
                ⟨some 59, none, .call 64 [.slot 58]⟩,
                ⟨some 60, none, .un .not (.slot 59)⟩])
               (.cond (.slot 60)
                (.seq
                 (.region [⟨some 4, none, .move (.lit (.c (.d (.v (.int .i64 8))))) true⟩])
                 .ret)
                .skip)))
             (.seq
              (.region [⟨some 62, none, .bin false .eql (.slot 12) (.lit (.c (.d (.v (.int .i64 4)))))⟩,
               ⟨some 61, none, .move (.slot 62) true⟩])
              (.cond (.slot 61)
               (.region [⟨some 63, none, .move (.slot 1) false⟩,
                ⟨some 64, none, .move (.slot 5) false⟩,
                ⟨some 65, none, .call 62 [.slot 64]⟩,
                ⟨some 66, none, .nilCheck (.slot 63)⟩,
                ⟨some 67, none, .fieldAddr (.slot 66) 4⟩,
                ⟨none, none, .store (.slot 67) (.slot 65) 1⟩])
               (.seq
                (.region [⟨some 69, none, .bin false .eql (.slot 12) (.lit (.c (.d (.v (.int .i64 5)))))⟩,
                 ⟨some 68, none, .move (.slot 69) true⟩])
                (.cond (.slot 68)
                 (.region [⟨some 70, none, .move (.slot 1) false⟩,
                  ⟨some 71, none, .move (.slot 5) false⟩,
                  ⟨some 72, none, .call 62 [.slot 71]⟩,
                  ⟨some 73, none, .nilCheck (.slot 70)⟩,
                  ⟨some 74, none, .fieldAddr (.slot 73) 5⟩,
                  ⟨none, none, .store (.slot 74) (.slot 72) 1⟩])
                 (.seq
                  (.region [⟨some 76, none, .bin false .eql (.slot 12) (.lit (.c (.d (.v (.int .i64 7)))))⟩,
                   ⟨some 75, none, .move (.slot 76) true⟩])
                  (.cond (.slot 75)
                   (.region [⟨some 77, none, .move (.slot 1) false⟩,
                    ⟨some 78, none, .move (.slot 1) false⟩,
                    ⟨some 79, none, .move (.slot 5) false⟩,
                    ⟨some 80, none, .call 62 [.slot 79]⟩,
                    ⟨some 81, none, .move (.slot 5) false⟩,
                    ⟨some 82, none, .call 62 [.slot 81]⟩,
                    ⟨some 83, none, .nilCheck (.slot 77)⟩,
                    ⟨some 84, none, .fieldAddr (.slot 83) 6⟩,
                    ⟨none, none, .store (.slot 84) (.slot 80) 1⟩,
                    ⟨some 85, none, .nilCheck (.slot 78)⟩,
                    ⟨some 86, none, .fieldAddr (.slot 85) 7⟩,
                    ⟨none, none, .store (.slot 86) (.slot 82) 1⟩])
                   (.seq
                    (.region [⟨some 88, none, .bin false .eql (.slot 12) (.lit (.c (.d (.v (.int .i64 8)))))⟩,
                     ⟨some 87, none, .move (.slot 88) true⟩])
                    (.cond (.slot 87)
                     (.block 1
                      (.loop
                       (.seq
                        (.seq
                         (.region [⟨some 89, none, .move (.slot 5) false⟩,
                          ⟨some 90, none, .call 21 [.slot 89]⟩,
                          ⟨some 91, none, .bin false .gtr (.slot 90) (.lit (.c (.d (.v (.int .i64 0)))))⟩])
                         (.cond (.slot 91)
                          .skip
                          (.exit 1)))
                        (.block 2
                         (.draw [(4, 6)] [⟨some 92, none, .move (.slot 1) false⟩,
                          ⟨some 93, none, .move (.slot 1) false⟩,
                          ⟨some 94, none, .nilCheck (.slot 93)⟩,
                          ⟨some 95, none, .fieldAddr (.slot 94) 8⟩,
                          ⟨some 96, none, .load (.slot 95) false 1 true⟩,
                          ⟨some 97, none, .move (.slot 5) false⟩,
                          ⟨some 98, none, .call 62 [.slot 97]⟩,
                          ⟨some 99, none, .buildSlice 25 1 1 [.v (.int .u32 0)] [(0, .slot 98)]⟩,
                          ⟨some 100, none, .append false 25 1 4 (.slot 96) (.slot 99)⟩,
                          ⟨some 101, none, .nilCheck (.slot 92)⟩,
                          ⟨some 102, none, .fieldAddr (.slot 101) 8⟩,
                          ⟨none, none, .store (.slot 102) (.slot 100) 1⟩])))))
                     .skip))))))))))))))))
     (.seq
      (.region [⟨some 4, none, .move (.lit (.c (.d (.v (.int .i64 0))))) true⟩])
      .ret))))

theorem F_attr_one_lay : Fn Try.prog 55 Try.f55 103 [96] [.t 4] c_attr_one_lay where
  hm := by kernel_rfl
  hf := Try.func55
  hb := by kernel_rfl
  hc := by kernel_rfl
  hts := by kernel_rfl
  hnd := by decide
  hn := Nat.le_of_eq (by kernel_rfl)

def c_attr_has : VC :=
  (.seq
   (.region [⟨some 2, none, .box 5 9 (.slot 0)⟩,
    ⟨some 4, none, .move (.lit (.c (.d (.v (.bool false))))) true⟩])
   (.seq
    (.draw [] [⟨some 5, none, .fieldAddr (.slot 2) 0⟩,
     ⟨some 6, none, .load (.slot 5) false 1 false⟩,
     ⟨some 7, none, .move (.slot 1) false⟩,
     ⟨some 8, none, .bin false .shl (.lit (.c (.d (.v (.int .i64 1))))) (.slot 7)⟩,
     ⟨some 9, none, .bin false .and (.slot 6) (.slot 8)⟩,
     ⟨some 10, none, .bin false .neq (.slot 9) (.lit (.c (.d (.v (.int .i64 0)))))⟩,
     ⟨some 4, none, .move (.slot 10) true⟩])
    .ret))

theorem F_attr_has : Fn Try.prog 56 Try.f56 11 [] [.t 4] c_attr_has where
  hm := by kernel_rfl
  hf := Try.func56
  hb := by kernel_rfl
  hc := by kernel_rfl
  hts := by kernel_rfl
  hnd := by decide
  hn := Nat.le_of_eq (by kernel_rfl)

def c_path_Norm : VC :=
  (.seq
   (.region [⟨some 2, none, .move (.lit (.c .nilsl)) true⟩])
   (.seq
    (.region [⟨some 3, none, .move (.slot 0) false⟩,
     ⟨some 4, none, .call 73 [.slot 3]⟩,
     ⟨some 2, none, .move (.slot 4) true⟩])
    .ret))

theorem F_path_Norm : Fn Try.prog 57 Try.f57 5 [] [.t 2] c_path_Norm where
  hm := by kernel_rfl
  hf := Try.func57
  hb := by kernel_rfl
  hc := by kernel_rfl
  hts := by kernel_rfl
  hnd := by decide
  hn := Nat.le_of_eq (by kernel_rfl)

def c_asn_Set : VC :=
  (.seq
   (.region [⟨some 2, none, .move (.lit (.c .nilsl)) true⟩])
   (.seq
    (.region [⟨some 4, none, .move (.slot 0) false⟩,
     ⟨some 5, none, .call 74 [.slot 4]⟩,
     ⟨some 3, none, .move (.slot 5) true⟩])
    (.seq
     (.region [⟨some 6, none, .move (.slot 3) false⟩,
      ⟨some 7, none, .call 75 [.slot 6]⟩])
     (.seq
      (.region [⟨some 8, none, .move (.slot 3) false⟩,
       ⟨some 9, none, .call 76 [.slot 8]⟩,
       ⟨some 2, none, .move (.slot 9) true⟩])
      .ret))))

theorem F_asn_Set : Fn Try.prog 58 Try.f58 10 [] [.t 2] c_asn_Set where
  hm := by kernel_rfl
  hf := Try.func58
  hb := by kernel_rfl
  hc := by kernel_rfl
  hts := by kernel_rfl
  hnd := by decide
  hn := Nat.le_of_eq (by kernel_rfl)

def c_r08_numbers : VC :=
  (.seq
   (.region [⟨some 2, none, .move (.lit (.c .nilsl)) true⟩])
   (.seq
    (.region [⟨some 5, none, .buildSlice 25 1 0 [.v (.int .u32 0)] []⟩,
     ⟨some 3, none, .move (.slot 5) true⟩])
    (.seq
     (.seq
      (.region [⟨some 4, none, .move (.lit (.c (.d (.v (.int .i64 0))))) true⟩])
      (.block 0
       (.loop
        (.seq
         (.seq
          (.region [⟨some 6, none, .move (.slot 4) false⟩,
           ⟨some 7, none, .bin false .add (.slot 6) (.lit (.c (.d (.v (.int .i64 4)))))⟩,
           ⟨some 8, none, .move (.slot 0) false⟩,
           ⟨some 9, none, .len (.slot 8)⟩,
           ⟨some 10, none, .bin false .leq (.slot 7) (.slot 9)⟩])
          (.cond (.slot 10)
           .skip
           (.exit 0)))
         (.seq
          (.block 1
           (.region [⟨some 13, none, .move (.slot 3) true⟩,
            ⟨some 14, none, .move (.slot 0) false⟩,
            ⟨some 15, none, .move (.slot 4) false⟩,
            ⟨some 16, none, .move (.slot 4) false⟩,
            ⟨some 17, none, .bin false .add (.slot 16) (.lit (.c (.d (.v (.int .i64 4)))))⟩,
            ⟨some 18, none, .slice 1 (.slot 14) (some (.slot 15)) (some (.slot 17)) none⟩,
            ⟨some 19, none, .call 26 [.slot 18]⟩,
            ⟨some 20, none, .buildSlice 25 1 1 [.v (.int .u32 0)] [(0, .slot 19)]⟩,
            ⟨some 21, none, .append false 25 1 4 (.slot 13) (.slot 20)⟩,
            ⟨some 3, none, .move (.slot 21) true⟩]))
          (.region [⟨some 11, none, .move (.slot 4) false⟩,
           ⟨some 12, none, .bin false .add (.slot 11) (.lit (.c (.d (.v (.int .i64 4)))))⟩,
           ⟨some 4, none, .move (.slot 12) true⟩]))))))
     (.seq
      (.region [⟨some 22, none, .move (.slot 3) true⟩,
       ⟨some 2, none, .move (.slot 22) true⟩])
      .ret))))

theorem F_r08_numbers : Fn Try.prog 59 Try.f59 23 [13,22] [.t 2] c_r08_numbers where
  hm := by kernel_rfl
  hf := Try.func59
  hb := by kernel_rfl
  hc := by kernel_rfl
  hts := by kernel_rfl
  hnd := by decide
  hn := Nat.le_of_eq (by kernel_rfl)

def c_r04_Norm : VC :=
  (.seq
   (.region [⟨some 2, none, .move (.lit (.c .nilsl)) true⟩])
   (.seq
    (.region [⟨some 6, none, .buildSlice 65 2 0 [.v (.int .i64 0), .sl []] []⟩,
     ⟨some 3, none, .move (.slot 6) true⟩])
    (.seq
     (.seq
      (.region [⟨some 4, none, .move (.lit (.c (.d (.v (.int .i64 0))))) true⟩])
      (.block 0
       (.loop
        (.seq
         (.seq
          (.region [⟨some 7, none, .move (.slot 4) false⟩,
           ⟨some 8, none, .move (.slot 0) false⟩,
           ⟨some 9, none, .len (.slot 8)⟩,
           ⟨some 10, none, .bin false .lss (.slot 7) (.slot 9)⟩])
          (.cond (.slot 10)
           .skip
           (.exit 0)))
         (.seq
          (.block 1
           (.seq
            (.seq
             (.region [⟨some 13, none, .move (.slot 0) false⟩,
              ⟨some 14, none, .move (.slot 4) false⟩,
              ⟨some 15, none, .indexAddr (.slot 13) (.slot 14) 2⟩,
              ⟨some 16, none, .fieldAddr (.slot 15) 0⟩,
              ⟨some 17, none, .load (.slot 16) false 1 false⟩,
              ⟨some 18, none, .bin false .eql (.slot 17) (.lit (.c (.d (.v (.int .i64 2)))))⟩])
             (.cond (.slot 18)
              (.seq
               (.region [⟨some 5, none, .move (.lit (.c (.d (.v (.int .i64 0))))) true⟩])
               (.block 2
                (.loop
                 (.seq
                  (.seq
                   (.region [⟨some 19, none, .move (.slot 5) false⟩,
                    ⟨some 20, none, .move (.slot 0) false⟩,
                    ⟨some 21, none, .move (.slot 4) false⟩,
                    ⟨some 22, none, .indexAddr (.slot 20) (.slot 21) 2⟩,
                    ⟨some 23, none, .fieldAddr (.slot 22) 1⟩,
                    ⟨some 24, none, .load (.slot 23) false 1 false⟩,
                    ⟨some 25, none, .len (.slot 24)⟩,
                    ⟨some 26, none, .bin false .lss (.slot 19) (.slot 25)⟩])
                   (.cond (.slot 26)
                    .skip
                    (.exit 2)))
                  (.seq
                   (.block 3
                    (.region [⟨some 29, none, .move (.slot 3) false⟩,
                     ⟨some 30, none, .move (.slot 0) false⟩,
                     ⟨some 31, none, .move (.slot 4) false⟩,
                     ⟨some 32, none, .indexAddr (.slot 30) (.slot 31) 2⟩,
                     ⟨some 33, none, .fieldAddr (.slot 32) 1⟩,
                     ⟨some 34, none, .load (.slot 33) false 1 false⟩,
                     ⟨some 35, none, .move (.slot 5) false⟩,
                     ⟨some 36, none, .indexAddr (.slot 34) (.slot 35) 1⟩,
                     ⟨some 37, none, .load (.slot 36) false 1 false⟩,
                     ⟨some 38, none, .call 77 [.slot 29, .slot 37]⟩,
                     ⟨some 3, none, .move (.slot 38) true⟩]))
                   (.region [⟨some 27, none, .move (.slot 5) false⟩,
                    ⟨some 28, none, .bin false .add (.slot 27) (.lit (.c (.d (.v (.int .i64 1)))))⟩,
                    ⟨some 5, none, .move (.slot 28) true⟩]))))))
              .skip))
            (.seq
             (.region [⟨some 39, none, .move (.slot 0) false⟩,
              ⟨some 40, none, .move (.slot 4) false⟩,
              ⟨some 41, none, .indexAddr (.slot 39) (.slot 40) 2⟩,
              ⟨some 42, none, .fieldAddr (.slot 41) 0⟩,
              ⟨some 43, none, .load (.slot 42) false 1 false⟩,
              ⟨some 44, none, .bin false .eql (.slot 43) (.lit (.c (.d (.v (.int .i64 1)))))⟩,
              ⟨some 45, none, .move (.slot 44) false⟩,
              ⟨some 46, some (45, true), .move (.slot 0) false⟩,
              ⟨some 47, some (45, true), .move (.slot 4) false⟩,
              ⟨some 48, some (45, true), .indexAddr (.slot 46) (.slot 47) 2⟩,
              ⟨some 49, some (45, true), .fieldAddr (.slot 48) 1⟩,
              ⟨some 50, some (45, true), .load (.slot 49) false 1 false⟩,
              ⟨some 51, some (45, true), .len (.slot 50)⟩,
              ⟨some 52, some (45, true), .bin false .gtr (.slot 51) (.lit (.c (.d (.v (.int .i64 0)))))⟩,
              ⟨some 53, none, .pick (.slot 45) (.slot 52) (.lit (.c (.d (.v (.bool false)))))⟩])
             (.cond (.slot 53)
              (.region [⟨some 54, none, .move (.slot 3) true⟩,
               ⟨some 55, none, .move (.slot 0) false⟩,
               ⟨some 56, none, .move (.slot 4) false⟩,
               ⟨some 57, none, .indexAddr (.slot 55) (.slot 56) 2⟩,
               ⟨some 58, none, .fieldAddr (.slot 57) 1⟩,
               ⟨some 59, none, .load (.slot 58) false 1 false⟩,
               ⟨some 60, none, .call 61 [.slot 59]⟩,
               ⟨some 61, none, .build [.d (.v (.int .i64 0)), .nilsl] [(0, (1, .lit (.c (.d (.v (.int .i64 1)))))), (1, (1, .slot 60))]⟩,
               ⟨some 62, none, .buildSlice 65 2 1 [.v (.int .i64 0), .sl []] [(0, .slot 61)]⟩,
               ⟨some 63, none, .append false 65 2 32 (.slot 54) (.slot 62)⟩,
               ⟨some 3, none, .move (.slot 63) true⟩])
              .skip))))
          (.region [⟨some 11, none, .move (.slot 4) false⟩,
           ⟨some 12, none, .bin false .add (.slot 11) (.lit (.c (.d (.v (.int .i64 1)))))⟩,
           ⟨some 4, none, .move (.slot 12) true⟩]))))))
     (.seq
      (.region [⟨some 64, none, .move (.slot 3) true⟩,
       ⟨some 2, none, .move (.slot 64) true⟩])
      .ret))))

theorem F_r04_Norm : Fn Try.prog 60 Try.f60 65 [54,64] [.t 2] c_r04_Norm where
  hm := by kernel_rfl
  hf := Try.func60
  hb := by kernel_rfl
  hc := by kernel_rfl
  hts := by kernel_rfl
  hnd := by decide
  hn := Nat.le_of_eq (by kernel_rfl)

def c_r02_Set : VC :=
  (.seq
   (.region [⟨some 2, none, .move (.lit (.c .nilsl)) true⟩])
   (.seq
    (.region [⟨some 5, none, .buildSlice 25 1 0 [.v (.int .u32 0)] []⟩,
     ⟨some 3, none, .move (.slot 5) true⟩])
    (.seq
     (.seq
      (.region [⟨some 4, none, .move (.lit (.c (.d (.v (.int .i64 0))))) true⟩])
      (.block 0
       (.loop
        (.seq
         (.seq
          (.region [⟨some 6, none, .move (.slot 4) false⟩,
           ⟨some 7, none, .move (.slot 0) false⟩,
           ⟨some 8, none, .len (.slot 7)⟩,
           ⟨some 9, none, .bin false .lss (.slot 6) (.slot 8)⟩])
          (.cond (.slot 9)
           .skip
           (.exit 0)))
         (.seq
          (.block 1
           (.region [⟨some 12, none, .move (.slot 3) false⟩,
            ⟨some 13, none, .move (.slot 0) false⟩,
            ⟨some 14, none, .move (.slot 4) false⟩,
            ⟨some 15, none, .indexAddr (.slot 13) (.slot 14) 1⟩,
            ⟨some 16, none, .load (.slot 15) false 1 false⟩,
            ⟨some 17, none, .call 78 [.slot 12, .slot 16]⟩,
            ⟨some 3, none, .move (.slot 17) true⟩]))
          (.region [⟨some 10, none, .move (.slot 4) false⟩,
           ⟨some 11, none, .bin false .add (.slot 10) (.lit (.c (.d (.v (.int .i64 1)))))⟩,
           ⟨some 4, none, .move (.slot 11) true⟩]))))))
     (.seq
      (.region [⟨some 18, none, .move (.slot 3) true⟩,
       ⟨some 2, none, .move (.slot 18) true⟩])
      .ret))))

theorem F_r02_Set : Fn Try.prog 61 Try.f61 19 [18] [.t 2] c_r02_Set where
  hm := by kernel_rfl
  hf := Try.func61
  hb := by kernel_rfl
  hc := by kernel_rfl
  hts := by kernel_rfl
  hnd := by decide
  hn := Nat.le_of_eq (by kernel_rfl)

def c_octet_Reader_U32 : VC :=
  (.seq
   (.region [⟨some 2, none, .move (.lit (.c (.d (.v (.int .u32 0))))) true⟩])
   (.seq
    (.region [⟨some 3, none, .move (.slot 0) false⟩,
     ⟨some 4, none, .call 70 [.slot 3, .lit (.c (.d (.v (.int .i64 4))))]⟩,
     ⟨some 2, none, .move (.slot 4) true⟩])
    .ret))

theorem F_octet_Reader_U32 : Fn Try.prog 62 Try.f62 5 [] [.t 2] c_octet_Reader_U32 where
  hm := by kernel_rfl
  hf := Try.func62
  hb := by kernel_rfl
  hc := by kernel_rfl
  hts := by kernel_rfl
  hnd := by decide
  hn := Nat.le_of_eq (by kernel_rfl)

def c_attr_same : VC :=
  (.seq
   (.region [⟨some 2, none, .box 5 9 (.slot 0)⟩,
    ⟨some 3, none, .box 7 9 (.slot 1)⟩,
    ⟨some 4, none, .move (.lit (.c (.d (.v (.bool false))))) true⟩])
   (.seq
    (.region (⟨some 6, none, .fieldAddr (.slot 2) 0⟩ ::
     ⟨some 7, none, .load (.slot 6) false 1 false⟩ ::
     ⟨some 8, none, .fieldAddr (.slot 3) 0⟩ ::
     ⟨some 9, none, .load (.slot 8) false 1 false⟩ ::
     ⟨some 10, none, .bin false .eql (.slot 7) (.slot 9)⟩ ::
     ⟨some 11, none, .move (.slot 10) false⟩ ::
     ⟨some 12, some (11, true), .fieldAddr (.slot 2) 1⟩ ::
     ⟨some 13, some (11, true), .load (.slot 12) false 1 false⟩ ::
     ⟨some 14, some (11, true), .fieldAddr (.slot 3) 1⟩ ::
     ⟨some 15, some (11, true), .load (.slot 14) false 1 false⟩ ::
     ⟨some 16, some (11, true), .bin false .eql (.slot 13) (.slot 15)⟩ ::
     ⟨some 17, none, .pick (.slot 11) (.slot 16) (.lit (.c (.d (.v (.bool false)))))⟩ ::
     ⟨some 18, none, .move (.slot 17) false⟩ ::
     ⟨some 19, some (18, true), .fieldAddr (.slot 2) 3⟩ ::
     ⟨some 20, some (18, true), .load (.slot 19) false 1 false⟩ ::
     ⟨some 21, some (18, true), .fieldAddr (.slot 3) 3⟩ ::
     ⟨some 22, some (18, true), .load (.slot 21) false 1 false⟩ ::
     ⟨some 23, some (18, true), .bin false .eql (.slot 20) (.slot 22)⟩ ::
     ⟨some 24, none, .pick (.slot 18) (.slot 23) (.lit (.c (.d (.v (.bool false)))))⟩ ::
     ⟨some 25, none, .move (.slot 24) false⟩ ::
     ⟨some 26, some (25, true), .fieldAddr (.slot 2) 4⟩ ::
     ⟨some 27, some (25, true), .load (.slot 26) false 1 false⟩ ::
     ⟨some 28, some (25, true), .fieldAddr (.slot 3) 4⟩ ::
     ⟨some 29, some (25, true), .load (.slot 28) false 1 false⟩ ::
     ⟨some 30, some (25, true), .bin false .eql (.slot 27) (.slot 29)⟩ ::
     ⟨some 31, none, .pick (.slot 25) (.slot 30) (.lit (.c (.d (.v (.bool false)))))⟩ ::
     ⟨some 32, none, .move (.slot 31) false⟩ ::
     ⟨some 33, some (32, true), .fieldAddr (.slot 2) 5⟩ ::
     ⟨some 34, some (32, true), .load (.slot 33) false 1 false⟩ ::
     ⟨some 35, some (32, true), .fieldAddr (.slot 3) 5⟩ ::
     ⟨some 36, some (32, true), .load (.slot 35) false 1 false⟩ ::
     ⟨some 37, some (32, true), .bin false .eql (.slot 34) (.slot 36)⟩ ::
     ⟨some 38, none, .pick (.slot 32) (.slot 37) (.lit (.c (.d (.v (.bool false)))))⟩ ::
     ⟨some 39, none, .move (.slot 38) false⟩ ::
     ⟨some 40, some (39, true), .fieldAddr (.slot 2) 6⟩ ::
     ⟨some 41, some (39, true), .load (.slot 40) false 1 false⟩ ::
     ⟨some 42, some (39, true), .fieldAddr (.slot 3) 6⟩ ::
     ⟨some 43, some (39, true), .load (.slot 42) false 1 false⟩ ::
     ⟨some 44, some (39, true), .bin false .eql (.slot 41) (.slot 43)⟩ ::
     ⟨some 45, none, .pick (.slot 39) (.slot 44) (.lit (.c (.d (.v (.bool false)))))⟩ ::
     ⟨some 46, none, .move (.slot 45) false⟩ ::
     ⟨some 47, some (46, true), .fieldAddr (.slot 2) 7⟩ ::
     ⟨some 48, some (46, true), .load (.slot 47) false 1 false⟩ ::
     ⟨some 49, some (46, true), .fieldAddr (.slot 3) 7⟩ ::
     ⟨some 50, some (46, true), .load (.slot 49) false 1 false⟩ ::
     ⟨some 51, some (46, true), .bin false .eql (.slot 48) (.slot 50)⟩ ::
     ⟨some 52, none, .pick (.slot 46) (.slot 51) (.lit (.c (.d (.v (.bool false)))))⟩ ::
     ⟨some 5, none, .move (.slot 52) true⟩ :: []))
    (.seq
     (.region [⟨some 53, none, .move (.slot 5) false⟩,
      ⟨some 54, none, .move (.slot 53) false⟩,
      ⟨some 55, some (54, true), .fieldAddr (.slot 2) 2⟩,
      ⟨some 56, some (54, true), .load (.slot 55) false 1 false⟩,
      ⟨some 57, some (54, true), .fieldAddr (.slot 3) 2⟩,
      ⟨some 58, some (54, true), .load (.slot 57) false 1 false⟩,
      ⟨some 59, some (54, true), .call 79 [.slot 56, .slot 58]⟩,
      ⟨some 60, none, .pick (.slot 54) (.slot 59) (.lit (.c (.d (.v (.bool false)))))⟩,
      ⟨some 61, none, .move (.slot 60) false⟩,
      ⟨some 62, some (61, true), .fieldAddr (.slot 2) 8⟩,
      ⟨some 63, some (61, true), .load (.slot 62) false 1 false⟩,
      ⟨some 64, some (61, true), .fieldAddr (.slot 3) 8⟩,
      ⟨some 65, some (61, true), .load (.slot 64) false 1 false⟩,
      ⟨some 66, some (61, true), .call 80 [.slot 63, .slot 65]⟩,
      ⟨some 67, none, .pick (.slot 61) (.slot 66) (.lit (.c (.d (.v (.bool false)))))⟩,
      ⟨some 4, none, .move (.slot 67) true⟩])
     .ret)))

theorem F_attr_same : Fn Try.prog 63 Try.f63 68 [] [.t 4] c_attr_same where
  hm := by kernel_rfl
  hf := Try.func63
  hb := by kernel_rfl
  hc := by kernel_rfl
  hts := by kernel_rfl
  hnd := by decide
  hn := Nat.le_of_eq (by kernel_rfl)

def c_attr_hop : VC :=
  (.seq
   (.region [⟨some 2, none, .move (.lit (.c (.d (.v (.bool false))))) true⟩])
   (.seq
    (.region [⟨some 3, none, .move (.slot 0) false⟩,
     ⟨some 4, none, .bin false .neq (.slot 3) (.lit (.c (.d (.v (.int .u32 0)))))⟩,
     ⟨some 5, none, .move (.slot 4) false⟩,
     ⟨some 6, some (5, true), .move (.slot 0) false⟩,
     ⟨some 7, some (5, true), .bin false .neq (.slot 6) (.lit (.c (.d (.v (.int .u32 4294967295)))))⟩,
     ⟨some 8, none, .pick (.slot 5) (.slot 7) (.lit (.c (.d (.v (.bool false)))))⟩,
     ⟨some 9, none, .move (.slot 8) false⟩,
     ⟨some 10, some (9, true), .move (.slot 0) false⟩,
     ⟨some 11, some (9, true), .bin false .shr (.slot 10) (.lit (.c (.d (.v (.int .u64 28)))))⟩,
     ⟨some 12, some (9, true), .bin false .neq (.slot 11) (.lit (.c (.d (.v (.int .u32 14)))))⟩,
     ⟨some 13, none, .pick (.slot 9) (.slot 12) (.lit (.c (.d (.v (.bool false)))))⟩,
     ⟨some 2, none, .move (.slot 13) true⟩])
    .ret))

theorem F_attr_hop : Fn Try.prog 64 Try.f64 14 [] [.t 2] c_attr_hop where
  hm := by kernel_rfl
  hf := Try.func64
  hb := by kernel_rfl
  hc := by kernel_rfl
  hts := by kernel_rfl
  hnd := by decide
  hn := Nat.le_of_eq (by kernel_rfl)

def c_attr_ways : VC :=
  (.seq
   (.region [⟨some 2, none, .move (.lit (.c (.d (.v (.bool false))))) true⟩])
   (.seq
    (.region [⟨some 3, none, .move (.lit (.c (.d (.v (.int .i64 0))))) true⟩])
    (.seq
     (.seq
      (.region [⟨some 6, none, .move (.slot 0) false⟩,
       ⟨some 7, none, .len (.slot 6)⟩,
       ⟨some 8, none, .move (.lit (.c (.d (.v (.int .i64 0))))) false⟩])
      (.block 0
       (.loop
        (.seq
         (.region [⟨some 9, none, .bin false .lss (.slot 8) (.slot 7)⟩])
         (.seq
          (.cond (.slot 9)
           .skip
           (.exit 0))
          (.seq
           (.block 1
            (.seq
             (.region [⟨some 10, none, .indexAddr (.slot 6) (.slot 8) 2⟩,
              ⟨some 11, none, .load (.slot 10) true 2 false⟩,
              ⟨some 5, none, .alloc 11 [.d (.v (.int .i64 0)), .nilsl]⟩,
              ⟨none, none, .store (.slot 5) (.slot 11) 2⟩])
             (.region [⟨some 12, none, .move (.slot 3) false⟩,
              ⟨some 13, none, .fieldAddr (.slot 5) 1⟩,
              ⟨some 14, none, .load (.slot 13) false 1 false⟩,
              ⟨some 15, none, .len (.slot 14)⟩,
              ⟨some 16, none, .bin false .add (.slot 12) (.slot 15)⟩,
              ⟨some 3, none, .move (.slot 16) true⟩])))
           (.region [⟨some 17, none, .bin false .add (.slot 8) (.lit (.c (.d (.v (.int .i64 1)))))⟩,
            ⟨some 8, none, .move (.slot 17) false⟩])))))))
     (.seq
      (.region [⟨some 18, none, .move (.slot 0) false⟩,
       ⟨some 19, none, .call 81 [.slot 18]⟩,
       ⟨some 20, none, .move (.slot 19) false⟩,
       ⟨some 21, some (20, true), .move (.slot 3) false⟩,
       ⟨some 22, some (20, true), .bin false .leq (.slot 21) (.lit (.c (.d (.v (.int .i64 2000)))))⟩,
       ⟨some 23, none, .pick (.slot 20) (.slot 22) (.lit (.c (.d (.v (.bool false)))))⟩,
       ⟨some 2, none, .move (.slot 23) true⟩])
      .ret))))

theorem F_attr_ways : Fn Try.prog 65 Try.f65 24 [] [.t 2] c_attr_ways where
  hm := by kernel_rfl
  hf := Try.func65
  hb := by kernel_rfl
  hc := by kernel_rfl
  hts := by kernel_rfl
  hnd := by decide
  hn := Nat.le_of_eq (by kernel_rfl)

def c_attr_value : VC :=
  (.seq
   (.region [⟨some 2, none, .box 5 9 (.slot 0)⟩,
    ⟨some 4, none, .move (.lit (.c .nilsl)) true⟩])
   (.seq
    (.region [⟨some 8, none, .build [.nilsl] []⟩,
     ⟨some 9, none, .box 19 1 (.slot 8)⟩,
     ⟨some 5, none, .move (.slot 9) true⟩])
    (.seq
     (.seq
      (.region [⟨some 10, none, .move (.slot 1) false⟩])
      (.block 0
       (.seq
        (.region [⟨some 12, none, .bin false .eql (.slot 10) (.lit (.c (.d (.v (.int .i64 1)))))⟩,
         ⟨some 11, none, .move (.slot 12) true⟩])
        (.cond (.slot 11)
         (.region [⟨some 13, none, .move (.slot 5) false⟩,
          ⟨some 14, none, .fieldAddr (.slot 2) 1⟩,
          ⟨some 15, none, .load (.slot 14) false 1 false⟩,
          ⟨some 16, none, .call 45 [.slot 13, .slot 15]⟩])
         (.seq
          (.region [⟨some 18, none, .bin false .eql (.slot 10) (.lit (.c (.d (.v (.int .i64 2)))))⟩,
           ⟨some 17, none, .move (.slot 18) true⟩])
          (.cond (.slot 17)
           (.seq
            (.region [⟨some 19, none, .fieldAddr (.slot 2) 2⟩,
             ⟨some 20, none, .load (.slot 19) false 1 false⟩,
             ⟨some 21, none, .len (.slot 20)⟩,
             ⟨some 22, none, .move (.lit (.c (.d (.v (.int .i64 0))))) false⟩])
            (.block 1
             (.loop
              (.seq
               (.region [⟨some 23, none, .bin false .lss (.slot 22) (.slot 21)⟩])
               (.seq
                (.cond (.slot 23)
                 .skip
                 (.exit 1))
                (.seq
                 (.block 2
                  (.seq
                   (.region [⟨some 24, none, .indexAddr (.slot 20) (.slot 22) 2⟩,
                    ⟨some 25, none, .load (.slot 24) true 2 false⟩,
                    ⟨some 7, none, .alloc 15 [.d (.v (.int .i64 0)), .nilsl]⟩,
                    ⟨none, none, .store (.slot 7) (.slot 25) 2⟩])
                   (.seq
                    (.draw [(3, 5)] [⟨some 26, none, .move (.slot 5) false⟩,
                     ⟨some 27, none, .fieldAddr (.slot 7) 0⟩,
                     ⟨some 28, none, .load (.slot 27) false 1 false⟩,
                     ⟨some 29, none, .call 45 [.slot 26, .slot 28]⟩,
                     ⟨some 30, none, .fieldAddr (.slot 7) 1⟩,
                     ⟨some 31, none, .load (.slot 30) false 1 false⟩,
                     ⟨some 32, none, .len (.slot 31)⟩,
                     ⟨some 33, none, .call 45 [.slot 29, .slot 32]⟩])
                    (.region [⟨some 34, none, .move (.slot 5) false⟩,
                     ⟨some 35, none, .fieldAddr (.slot 7) 1⟩,
                     ⟨some 36, none, .load (.slot 35) false 1 false⟩,
                     ⟨some 37, none, .call 82 [.slot 34, .slot 36]⟩]))))
                 (.region [⟨some 38, none, .bin false .add (.slot 22) (.lit (.c (.d (.v (.int .i64 1)))))⟩,
                  ⟨some 22, none, .move (.slot 38) false⟩])))))))
           (.seq
            (.region [⟨some 40, none, .bin false .eql (.slot 10) (.lit (.c (.d (.v (.int .i64 3)))))⟩,
             ⟨some 39, none, .move (.slot 40) true⟩])
            (.cond (.slot 39)
             (.region [⟨some 41, none, .move (.slot 5) false⟩,
              ⟨some 42, none, .fieldAddr (.slot 2) 3⟩,
              ⟨some 43, none, .load (.slot 42) false 1 false⟩,
              ⟨some 44, none, .call 83 [.slot 41, .slot 43]⟩])
             (.seq
              (.region [⟨some 46, none, .bin false .eql (.slot 10) (.lit (.c (.d (.v (.int .i64 4)))))⟩,
               ⟨some 45, none, .move (.slot 46) true⟩])
              (.cond (.slot 45)
               (.region [⟨some 47, none, .move (.slot 5) false⟩,
                ⟨some 48, none, .fieldAddr (.slot 2) 4⟩,
                ⟨some 49, none, .load (.slot 48) false 1 false⟩,
                ⟨some 50, none, .call 83 [.slot 47, .slot 49]⟩])
               (.seq
                (.region [⟨some 52, none, .bin false .eql (.slot 10) (.lit (.c (.d (.v (.int .i64 5)))))⟩,
                 ⟨some 51, none, .move (.slot 52) true⟩])
                (.cond (.slot 51)
                 (.region [⟨some 53, none, .move (.slot 5) false⟩,
                  ⟨some 54, none, .fieldAddr (.slot 2) 5⟩,
                  ⟨some 55, none, .load (.slot 54) false 1 false⟩,
                  ⟨some 56, none, .call 83 [.slot 53, .slot 55]⟩])
                 (.seq
                  (.region [⟨some 58, none, .bin false .eql (.slot 10) (.lit (.c (.d (.v (.int .i64 7)))))⟩,
                   ⟨some 57, none, .move (.slot 58) true⟩])
                  (.cond (.slot 57)
                   (.draw [(3, 5)] [⟨some 59, none, .move (.slot 5) false⟩,
                    ⟨some 60, none, .fieldAddr (.slot 2) 6⟩,
                    ⟨some 61, none, .load (.slot 60) false 1 false⟩,
                    ⟨some 62, none, .call 83 [.slot 59, .slot 61]⟩,
                    ⟨some 63, none, .fieldAddr (.slot 2) 7⟩,
                    ⟨some 64, none, .load (.slot 63) false 1 false⟩,
                    ⟨some 65, none, .call 83 [.slot 62, .slot 64]⟩])
                   (.seq
                    (.region [⟨some 67, none, .bin false .eql (.slot 10) (.lit (.c (.d (.v (.int .i64 8)))))⟩,
                     ⟨some 66, none, .move (.slot 67) true⟩])
                    (.cond (.slot 66)
                     (.region [⟨some 68, none, .move (.slot 5) false⟩,
                      ⟨some 69, none, .fieldAddr (.slot 2) 8⟩,
                      ⟨some 70, none, .load (.slot 69) false 1 false⟩,
                      ⟨some 71, none, .call 82 [.slot 68, .slot 70]⟩])
                     .skip))))))))))))))))
     (.seq
      (.region [⟨some 72, none, .move (.slot 5) false⟩,
       ⟨some 73, none, .call 50 [.slot 72]⟩,
       ⟨some 4, none, .move (.slot 73) true⟩])
      .ret))))

theorem F_attr_value : Fn Try.prog 66 Try.f66 74 [] [.t 4] c_attr_value where
  hm := by kernel_rfl
  hf := Try.func66
  hb := by kernel_rfl
  hc := by kernel_rfl
  hts := by kernel_rfl
  hnd := by decide
  hn := Nat.le_of_eq (by kernel_rfl)

def c_octet_Writer_Long : VC :=
  (.seq
   (.region [⟨some 4, none, .move (.lit (.c (.d (.v (.bool false))))) true⟩])
   (.seq
    (.seq
     (.region [⟨some 5, none, .move (.slot 0) false⟩,
      ⟨some 6, none, .isNil false (.slot 5)⟩,
      ⟨some 7, none, .move (.slot 6) false⟩,
      ⟨some 8, some (7, false), .move (.slot 1) false⟩,
      ⟨some 9, some (7, false), .len (.slot 8)⟩,
      ⟨some 10, some (7, false), .bin false .gtr (.slot 9) (.lit (.c (.d (.v (.int .i64 65535)))))⟩,
      ⟨some 11, none, .pick (.slot 7) (.lit (.c (.d (.v (.bool true))))) (.slot 10)⟩])
     (.cond (.slot 11)
      (.seq
       (.region [⟨some 4, none, .move (.lit (.c (.d (.v (.bool false))))) true⟩])
       .ret)
      .skip))
    (.seq
     (.region [⟨some 12, none, .move (.slot 0) false⟩,
      ⟨some 13, none, .move (.slot 1) false⟩,
      ⟨some 14, none, .len (.slot 13)⟩,
      ⟨some 15, none, .call 47 [.slot 12, .slot 14]⟩,
      ⟨some 16, none, .move (.slot 1) false⟩,
      ⟨some 17, none, .call 71 [.slot 15, .slot 16]⟩])
     (.seq
      (.region [⟨some 4, none, .move (.lit (.c (.d (.v (.bool true))))) true⟩])
      .ret))))

theorem F_octet_Writer_Long : Fn Try.prog 67 Try.f67 18 [] [.t 4] c_octet_Writer_Long where
  hm := by kernel_rfl
  hf := Try.func67
  hb := by kernel_rfl
  hc := by kernel_rfl
  hts := by kernel_rfl
  hnd := by decide
  hn := Nat.le_of_eq (by kernel_rfl)

def c_octet_Writer_Sized : VC :=
  (.seq
   (.region [⟨some 4, none, .move (.lit (.c (.d (.v (.bool false))))) true⟩])
   (.seq
    (.seq
     (.region [⟨some 5, none, .move (.slot 0) false⟩,
      ⟨some 6, none, .isNil false (.slot 5)⟩,
      ⟨some 7, none, .move (.slot 6) false⟩,
      ⟨some 8, some (7, false), .move (.slot 1) false⟩,
      ⟨some 9, some (7, false), .len (.slot 8)⟩,
      ⟨some 10, some (7, false), .bin false .gtr (.slot 9) (.lit (.c (.d (.v (.int .i64 255)))))⟩,
      ⟨some 11, none, .pick (.slot 7) (.lit (.c (.d (.v (.bool true))))) (.slot 10)⟩])
     (.cond (.slot 11)
      (.seq
       (.region [⟨some 4, none, .move (.lit (.c (.d (.v (.bool false))))) true⟩])
       .ret)
      .skip))
    (.seq
     (.region [⟨some 12, none, .move (.slot 0) false⟩,
      ⟨some 13, none, .move (.slot 1) false⟩,
      ⟨some 14, none, .len (.slot 13)⟩,
      ⟨some 15, none, .conv .u8 (.slot 14)⟩,
      ⟨some 16, none, .buildSlice 5 1 1 [.v (.int .u8 0)] [(0, .slot 15)]⟩,
      ⟨some 17, none, .call 71 [.slot 12, .slot 16]⟩,
      ⟨some 18, none, .move (.slot 1) false⟩,
      ⟨some 19, none, .call 71 [.slot 17, .slot 18]⟩])
     (.seq
      (.region [⟨some 4, none, .move (.lit (.c (.d (.v (.bool true))))) true⟩])
      .ret))))

theorem F_octet_Writer_Sized : Fn Try.prog 68 Try.f68 20 [] [.t 4] c_octet_Writer_Sized where
  hm := by kernel_rfl
  hf := Try.func68
  hb := by kernel_rfl
  hc := by kernel_rfl
  hts := by kernel_rfl
  hnd := by decide
  hn := Nat.le_of_eq (by kernel_rfl)

def c_r04_Good : VC :=
  (.seq
   (.region [⟨some 2, none, .move (.lit (.c (.d (.v (.bool false))))) true⟩])
   (.seq
    (.seq
     (.region [⟨some 5, none, .move (.slot 0) false⟩,
      ⟨some 6, none, .len (.slot 5)⟩,
      ⟨some 7, none, .bin false .gtr (.slot 6) (.lit (.c (.d (.v (.int .i64 100)))))⟩])
     (.cond (.slot 7)
      (.seq
       (.region [⟨some 2, none, .move (.lit (.c (.d (.v (.bool false))))) true⟩])
       .ret)
      .skip))
    (.seq
     (.seq
      (.region [⟨some 3, none, .move (.lit (.c (.d (.v (.int .i64 0))))) true⟩])
      (.block 0
       (.loop
        (.seq
         (.seq
          (.region [⟨some 8, none, .move (.slot 3) false⟩,
           ⟨some 9, none, .move (.slot 0) false⟩,
           ⟨some 10, none, .len (.slot 9)⟩,
           ⟨some 11, none, .bin false .lss (.slot 8) (.slot 10)⟩])
          (.cond (.slot 11)
           .skip
           (.exit 0)))
         (.seq
          (.block 1
           (.seq
            (.region [⟨some 14, none, .move (.slot 0) false⟩,
             ⟨some 15, none, .move (.slot 3) false⟩,
             ⟨some 16, none, .indexAddr (.slot 14) (.slot 15) 2⟩,
             ⟨some 17, none, .fieldAddr (.slot 16) 1⟩,
             ⟨some 18, none, .load (.slot 17) false 1 false⟩,
             ⟨some 19, none, .len (.slot 18)⟩,
             ⟨some 4, none, .move (.slot 19) true⟩])
            (.seq
             (.seq
              (.region [⟨some 20, none, .move (.slot 4) false⟩,
               ⟨some 21, none, .bin false .lss (.slot 20) (.lit (.c (.d (.v (.int .i64 1)))))⟩,
               ⟨some 22, none, .move (.slot 21) false⟩,
               ⟨some 23, some (22, false), .move (.slot 4) false⟩,
               ⟨some 24, some (22, false), .bin false .gtr (.slot 23) (.lit (.c (.d (.v (.int .i64 255)))))⟩,
               ⟨some 25, none, .pick (.slot 22) (.lit (.c (.d (.v (.bool true))))) (.slot 24)⟩,
               ⟨some 26, none, .move (.slot 25) false⟩,
               ⟨some 27, some (26, false), .move (.slot 0) false⟩,
               ⟨some 28, some (26, false), .move (.slot 3) false⟩,
               ⟨some 29, some (26, false), .indexAddr (.slot 27) (.slot 28) 2⟩,
               ⟨some 30, some (26, false), .fieldAddr (.slot 29) 0⟩,
               ⟨some 31, some (26, false), .load (.slot 30) false 1 false⟩,
               ⟨some 32, some (26, false), .bin false .neq (.slot 31) (.lit (.c (.d (.v (.int .i64 1)))))⟩,
               ⟨some 33, some (26, false), .move (.slot 32) false⟩,
               ⟨some 34, some (33, true), .move (.slot 0) false⟩,
               ⟨some 35, some (33, true), .move (.slot 3) false⟩,
               ⟨some 36, some (33, true), .indexAddr (.slot 34) (.slot 35) 2⟩,
               ⟨some 37, some (33, true), .fieldAddr (.slot 36) 0⟩,
               ⟨some 38, some (33, true), .load (.slot 37) false 1 false⟩,
               ⟨some 39, some (33, true), .bin false .neq (.slot 38) (.lit (.c (.d (.v (.int .i64 2)))))⟩,
               ⟨some 40, some (26, false), .pick (.slot 33) (.slot 39) (.lit (.c (.d (.v (.bool false)))))⟩,
               ⟨some 41, none, .pick (.slot 26) (.lit (.c (.d (.v (.bool true))))) (.slot 40)⟩])
              (.cond (.slot 41)
               (.seq
                (.region [⟨some 2, none, .move (.lit (.c (.d (.v (.bool false))))) true⟩])
                .ret)
               .skip))
             (.seq
              (.draw [(12, 17)] (⟨some 42, none, .move (.slot 0) false⟩ ::
               ⟨some 43, none, .move (.slot 3) false⟩ ::
               ⟨some 44, none, .indexAddr (.slot 42) (.slot 43) 2⟩ ::
               ⟨some 45, none, .fieldAddr (.slot 44) 0⟩ ::
               ⟨some 46, none, .load (.slot 45) false 1 false⟩ ::
               ⟨some 47, none, .bin false .eql (.slot 46) (.lit (.c (.d (.v (.int .i64 1)))))⟩ ::
               ⟨some 48, none, .move (.slot 47) false⟩ ::
               ⟨some 49, some (48, true), .move (.slot 0) false⟩ ::
               ⟨some 50, some (48, true), .move (.slot 3) false⟩ ::
               ⟨some 51, some (48, true), .indexAddr (.slot 49) (.slot 50) 2⟩ ::
               ⟨some 52, some (48, true), .fieldAddr (.slot 51) 1⟩ ::
               ⟨some 53, some (48, true), .load (.slot 52) false 1 false⟩ ::
               ⟨some 54, some (48, true), .call 61 [.slot 53]⟩ ::
               ⟨some 55, some (48, true), .move (.slot 0) false⟩ ::
               ⟨some 56, some (48, true), .move (.slot 3) false⟩ ::
               ⟨some 57, some (48, true), .indexAddr (.slot 55) (.slot 56) 2⟩ ::
               ⟨some 58, some (48, true), .fieldAddr (.slot 57) 1⟩ ::
               ⟨some 59, some (48, true), .load (.slot 58) false 1 false⟩ ::
               ⟨some 60, some (48, true), .call 31 [.slot 54, .slot 59]⟩ ::
               ⟨some 61, some (48, true), .un .not (.slot 60)⟩ ::
               ⟨some 62, none, .pick (.slot 48) (.slot 61) (.lit (.c (.d (.v (.bool false)))))⟩ ::
               ⟨some 63, none, .move (.slot 62) false⟩ ::
               ⟨some 64, some (63, false), .move (.slot 0) false⟩ ::
               ⟨some 65, some (63, false), .move (.slot 3) false⟩ ::
               ⟨some 66, some (63, false), .indexAddr (.slot 64) (.slot 65) 2⟩ ::
               ⟨some 67, some (63, false), .fieldAddr (.slot 66) 0⟩ ::
               ⟨some 68, some (63, false), .load (.slot 67) false 1 false⟩ ::
               ⟨some 69, some (63, false), .bin false .eql (.slot 68) (.lit (.c (.d (.v (.int .i64 2)))))⟩ ::
               ⟨some 70, some (63, false), .move (.slot 69) false⟩ ::
               ⟨some 71, some (70, true), .move (.slot 3) false⟩ ::
               ⟨some 72, some (70, true), .bin false .gtr (.slot 71) (.lit (.c (.d (.v (.int .i64 0)))))⟩ ::
               ⟨some 73, some (63, false), .pick (.slot 70) (.slot 72) (.lit (.c (.d (.v (.bool false)))))⟩ ::
               ⟨some 74, some (63, false), .move (.slot 73) false⟩ ::
               ⟨some 75, some (74, true), .move (.slot 0) false⟩ ::
               ⟨some 76, some (74, true), .move (.slot 3) false⟩ ::
               ⟨some 77, some (74, true), .bin false .sub (.slot 76) (.lit (.c (.d (.v (.int .i64 1)))))⟩ ::
               ⟨some 78, some (74, true), .indexAddr (.slot 75) (.slot 77) 2⟩ ::
               ⟨some 79, some (74, true), .fieldAddr (.slot 78) 0⟩ ::
               ⟨some 80, some (74, true), .load (.slot 79) false 1 false⟩ ::
               ⟨some 81, some (74, true), .bin false .eql (.slot 80) (.lit (.c (.d (.v (.int .i64 2)))))⟩ ::
               ⟨some 82, some (63, false), .pick (.slot 74) (.slot 81) (.lit (.c (.d (.v (.bool false)))))⟩ ::
               ⟨some 83, some (63, false), .move (.slot 82) false⟩ ::
               ⟨some 84, some (83, true), .move (.slot 0) false⟩ ::
               ⟨some 85, some (83, true), .move (.slot 3) false⟩ ::
               ⟨some 86, some (83, true), .bin false .sub (.slot 85) (.lit (.c (.d (.v (.int .i64 1)))))⟩ ::
               ⟨some 87, some (83, true), .indexAddr (.slot 84) (.slot 86) 2⟩ ::
               ⟨some 88, some (83, true), .fieldAddr (.slot 87) 1⟩ ::
               ⟨some 89, some (83, true), .load (.slot 88) false 1 false⟩ ::
               ⟨some 90, some (83, true), .len (.slot 89)⟩ ::
               ⟨some 91, some (83, true), .bin false .lss (.slot 90) (.lit (.c (.d (.v (.int .i64 255)))))⟩ ::
               ⟨some 92, some (63, false), .pick (.slot 83) (.slot 91) (.lit (.c (.d (.v (.bool false)))))⟩ ::
               ⟨some 93, none, .pick (.slot 63) (.lit (.c (.d (.v (.bool true))))) (.slot 92)⟩ :: []))
              (.cond (.slot 93)
               (.seq
                (.region [⟨some 2, none, .move (.lit (.c (.d (.v (.bool false))))) true⟩])
                .ret)
               .skip)))))
          (.region [⟨some 12, none, .move (.slot 3) false⟩,
           ⟨some 13, none, .bin false .add (.slot 12) (.lit (.c (.d (.v (.int .i64 1)))))⟩,
           ⟨some 3, none, .move (.slot 13) true⟩]))))))
     (.seq
      (.region [⟨some 2, none, .move (.lit (.c (.d (.v (.bool true))))) true⟩])
      .ret))))

theorem F_r04_Good : Fn Try.prog 69 Try.f69 94 [] [.t 2] c_r04_Good where
  hm := by kernel_rfl
  hf := Try.func69
  hb := by kernel_rfl
  hc := by kernel_rfl
  hts := by kernel_rfl
  hnd := by decide
  hn := Nat.le_of_eq (by kernel_rfl)

def c_octet_Reader_number : VC :=
  (.seq
   (.region [⟨some 4, none, .move (.lit (.c (.d (.v (.int .u32 0))))) true⟩])
   (.seq
    (.region [⟨some 5, none, .move (.lit (.c (.d (.v (.int .u32 0))))) true⟩])
    (.seq
     (.region [⟨some 11, none, .move (.slot 0) false⟩,
      ⟨some 12, none, .move (.slot 1) false⟩,
      ⟨some 13, none, .call 72 [.slot 11, .slot 12]⟩,
      ⟨some 10, none, .move (.slot 13) false⟩,
      ⟨some 14, none, .extract (.slot 10) 0 false⟩,
      ⟨some 15, none, .extract (.slot 10) 1 false⟩,
      ⟨some 6, none, .move (.slot 14) true⟩,
      ⟨some 7, none, .move (.slot 15) true⟩])
     (.seq
      (.seq
       (.region [⟨some 16, none, .move (.slot 6) false⟩,
        ⟨some 17, none, .len (.slot 16)⟩,
        ⟨some 18, none, .move (.lit (.c (.d (.v (.int .i64 0))))) false⟩])
       (.block 0
        (.loop
         (.seq
          (.region [⟨some 19, none, .bin false .lss (.slot 18) (.slot 17)⟩])
          (.seq
           (.cond (.slot 19)
            .skip
            (.exit 0))
           (.seq
            (.block 1
             (.seq
              (.region [⟨some 20, none, .indexAddr (.slot 16) (.slot 18) 1⟩,
               ⟨some 21, none, .load (.slot 20) false 1 false⟩,
               ⟨some 9, none, .move (.slot 21) true⟩])
              (.region [⟨some 22, none, .move (.slot 5) false⟩,
               ⟨some 23, none, .bin false .shl (.slot 22) (.lit (.c (.d (.v (.int .u64 8)))))⟩,
               ⟨some 24, none, .move (.slot 9) false⟩,
               ⟨some 25, none, .conv .u32 (.slot 24)⟩,
               ⟨some 26, none, .bin false .or (.slot 23) (.slot 25)⟩,
               ⟨some 5, none, .move (.slot 26) true⟩])))
            (.region [⟨some 27, none, .bin false .add (.slot 18) (.lit (.c (.d (.v (.int .i64 1)))))⟩,
             ⟨some 18, none, .move (.slot 27) false⟩])))))))
      (.seq
       (.region [⟨some 28, none, .move (.slot 5) true⟩,
        ⟨some 4, none, .move (.slot 28) true⟩])
       .ret)))))

theorem F_octet_Reader_number : Fn Try.prog 70 Try.f70 29 [28] [.t 4] c_octet_Reader_number where
  hm := by kernel_rfl
  hf := Try.func70
  hb := by kernel_rfl
  hc := by kernel_rfl
  hts := by kernel_rfl
  hnd := by decide
  hn := Nat.le_of_eq (by kernel_rfl)

def c_octet_Writer_put : VC :=
  (.seq
   (.region [⟨some 4, none, .move (.lit (.c (.d (.v (.pointer none))))) true⟩])
   (.seq
    (.seq
     (.region [⟨some 5, none, .move (.slot 0) false⟩,
      ⟨some 6, none, .isNil true (.slot 5)⟩])
     (.cond (.slot 6)
      (.region [⟨some 7, none, .move (.slot 0) false⟩,
       ⟨some 8, none, .move (.slot 0) false⟩,
       ⟨some 9, none, .nilCheck (.slot 8)⟩,
       ⟨some 10, none, .fieldAddr (.slot 9) 0⟩,
       ⟨some 11, none, .load (.slot 10) false 1 true⟩,
       ⟨some 12, none, .move (.slot 1) false⟩,
       ⟨some 13, none, .append false 5 1 1 (.slot 11) (.slot 12)⟩,
       ⟨some 14, none, .nilCheck (.slot 7)⟩,
       ⟨some 15, none, .fieldAddr (.slot 14) 0⟩,
       ⟨none, none, .store (.slot 15) (.slot 13) 1⟩])
      .skip))
    (.seq
     (.region [⟨some 16, none, .move (.slot 0) true⟩,
      ⟨some 4, none, .move (.slot 16) true⟩])
     .ret)))

theorem F_octet_Writer_put : Fn Try.prog 71 Try.f71 17 [11,16] [.t 4] c_octet_Writer_put where
  hm := by kernel_rfl
  hf := Try.func71
  hb := by kernel_rfl
  hc := by kernel_rfl
  hts := by kernel_rfl
  hnd := by decide
  hn := Nat.le_of_eq (by kernel_rfl)

def c_octet_Reader_take : VC :=
  (.seq
   (.region [⟨some 4, none, .move (.lit (.c .nilsl)) true⟩,
    ⟨some 5, none, .move (.lit (.c (.d (.v (.bool false))))) true⟩])
   (.scope1
    (.seq
     (.seq
      (.region [⟨some 7, none, .move (.slot 0) false⟩,
       ⟨some 8, none, .isNil false (.slot 7)⟩])
      (.cond (.slot 8)
       (.seq
        (.region [⟨some 4, none, .move (.lit (.c .nilsl)) true⟩,
         ⟨some 5, none, .move (.lit (.c (.d (.v (.bool false))))) true⟩])
        .ret)
       .skip))
     (.seq
      (.seq
       (.region [⟨some 9, none, .move (.slot 0) false⟩,
        ⟨some 10, none, .nilCheck (.slot 9)⟩,
        ⟨some 11, none, .fieldAddr (.slot 10) 1⟩,
        ⟨some 12, none, .load (.slot 11) false 1 false⟩,
        ⟨some 13, none, .move (.slot 12) false⟩,
        ⟨some 14, some (13, false), .move (.slot 1) false⟩,
        ⟨some 15, some (13, false), .bin false .lss (.slot 14) (.lit (.c (.d (.v (.int .i64 0)))))⟩,
        ⟨some 16, none, .pick (.slot 13) (.lit (.c (.d (.v (.bool true))))) (.slot 15)⟩,
        ⟨some 17, none, .move (.slot 16) false⟩,
        ⟨some 18, some (17, false), .move (.slot 1) false⟩,
        ⟨some 19, some (17, false), .move (.slot 0) false⟩,
        ⟨some 20, some (17, false), .nilCheck (.slot 19)⟩,
        ⟨some 21, some (17, false), .fieldAddr (.slot 20) 0⟩,
        ⟨some 22, some (17, false), .load (.slot 21) false 1 false⟩,
        ⟨some 23, some (17, false), .len (.slot 22)⟩,
        ⟨some 24, some (17, false), .bin false .gtr (.slot 18) (.slot 23)⟩,
        ⟨some 25, none, .pick (.slot 17) (.lit (.c (.d (.v (.bool true))))) (.slot 24)⟩])
       (.cond (.slot 25)
        (.goto 0)
        .skip))
      (.seq
       (.seq
        (.region [⟨some 26, none, .move (.slot 0) false⟩,
         ⟨some 27, none, .nilCheck (.slot 26)⟩,
         ⟨some 28, none, .fieldAddr (.slot 27) 0⟩,
         ⟨some 29, none, .load (.slot 28) false 1 false⟩,
         ⟨some 30, none, .move (.slot 1) false⟩,
         ⟨some 31, none, .move (.slot 1) false⟩,
         ⟨some 32, none, .slice 1 (.slot 29) none (some (.slot 30)) (some (.slot 31))⟩,
         ⟨some 6, none, .move (.slot 32) true⟩])
        (.seq
         (.region [⟨some 33, none, .move (.slot 0) false⟩,
          ⟨some 34, none, .move (.slot 0) false⟩,
          ⟨some 35, none, .nilCheck (.slot 34)⟩,
          ⟨some 36, none, .fieldAddr (.slot 35) 0⟩,
          ⟨some 37, none, .load (.slot 36) false 1 false⟩,
          ⟨some 38, none, .move (.slot 1) false⟩,
          ⟨some 39, none, .slice 1 (.slot 37) (some (.slot 38)) none none⟩,
          ⟨some 40, none, .nilCheck (.slot 33)⟩,
          ⟨some 41, none, .fieldAddr (.slot 40) 0⟩,
          ⟨none, none, .store (.slot 41) (.slot 39) 1⟩])
         (.seq
          (.region [⟨some 42, none, .move (.slot 6) true⟩,
           ⟨some 4, none, .move (.slot 42) true⟩,
           ⟨some 5, none, .move (.lit (.c (.d (.v (.bool true))))) true⟩])
          .ret)))
       (.seq
        (.label 0)
        (.seq
         (.region [⟨some 43, none, .move (.slot 0) false⟩,
          ⟨some 44, none, .move (.slot 0) false⟩,
          ⟨some 45, none, .nilCheck (.slot 43)⟩,
          ⟨some 46, none, .fieldAddr (.slot 45) 0⟩,
          ⟨none, none, .store (.slot 46) (.lit (.c .nilsl)) 1⟩,
          ⟨some 47, none, .nilCheck (.slot 44)⟩,
          ⟨some 48, none, .fieldAddr (.slot 47) 1⟩,
          ⟨none, none, .store (.slot 48) (.lit (.c (.d (.v (.bool true))))) 1⟩])
         (.seq
          (.region [⟨some 4, none, .move (.lit (.c .nilsl)) true⟩,
           ⟨some 5, none, .move (.lit (.c (.d (.v (.bool false))))) true⟩])
          .ret))))))
    0
    (.seq
     .skip
     (.seq
      (.region [⟨some 43, none, .move (.slot 0) false⟩,
       ⟨some 44, none, .move (.slot 0) false⟩,
       ⟨some 45, none, .nilCheck (.slot 43)⟩,
       ⟨some 46, none, .fieldAddr (.slot 45) 0⟩,
       ⟨none, none, .store (.slot 46) (.lit (.c .nilsl)) 1⟩,
       ⟨some 47, none, .nilCheck (.slot 44)⟩,
       ⟨some 48, none, .fieldAddr (.slot 47) 1⟩,
       ⟨none, none, .store (.slot 48) (.lit (.c (.d (.v (.bool true))))) 1⟩])
      (.seq
       (.region [⟨some 4, none, .move (.lit (.c .nilsl)) true⟩,
        ⟨some 5, none, .move (.lit (.c (.d (.v (.bool false))))) true⟩])
       .ret)))))

theorem F_octet_Reader_take : Fn Try.prog 72 Try.f72 49 [42] [.t 4, .t 5] c_octet_Reader_take where
  hm := by kernel_rfl
  hf := Try.func72
  hb := by kernel_rfl
  hc := by kernel_rfl
  hts := by kernel_rfl
  hnd := by decide
  hn := Nat.le_of_eq (by kernel_rfl)

def c_path_norm : VC :=
  (.seq
   (.region [⟨some 2, none, .move (.lit (.c .nilsl)) true⟩])
   (.seq
    (.region [⟨some 3, none, .move (.lit (.c .nilsl)) true⟩])
    (.seq
     (.region [⟨some 4, none, .move (.lit (.c .nilsl)) true⟩])
     (.seq
      (.seq
       (.region [⟨some 7, none, .move (.slot 0) false⟩,
        ⟨some 8, none, .len (.slot 7)⟩,
        ⟨some 9, none, .move (.lit (.c (.d (.v (.int .i64 0))))) false⟩])
       (.block 0
        (.loop
         (.seq
          (.region [⟨some 10, none, .bin false .lss (.slot 9) (.slot 8)⟩])
          (.seq
           (.cond (.slot 10)
            .skip
            (.exit 0))
           (.seq
            (.block 1
             (.seq
              (.region [⟨some 11, none, .indexAddr (.slot 7) (.slot 9) 2⟩,
               ⟨some 12, none, .load (.slot 11) true 2 false⟩,
               ⟨some 6, none, .alloc 13 [.d (.v (.int .i64 0)), .nilsl]⟩,
               ⟨none, none, .store (.slot 6) (.slot 12) 2⟩])
              (.block 2
               (.seq
                (.region [⟨some 14, none, .fieldAddr (.slot 6) 0⟩,
                 ⟨some 15, none, .load (.slot 14) false 1 false⟩,
                 ⟨some 16, none, .bin false .eql (.slot 15) (.lit (.c (.d (.v (.int .i64 2)))))⟩,
                 ⟨some 13, none, .move (.slot 16) true⟩])
                (.cond (.slot 13)
                 (.region [⟨some 17, none, .move (.slot 4) true⟩,
                  ⟨some 18, none, .fieldAddr (.slot 6) 1⟩,
                  ⟨some 19, none, .load (.slot 18) false 1 false⟩,
                  ⟨some 20, none, .append false 25 1 4 (.slot 17) (.slot 19)⟩,
                  ⟨some 4, none, .move (.slot 20) true⟩])
                 (.seq
                  (.region [⟨some 22, none, .fieldAddr (.slot 6) 0⟩,
                   ⟨some 23, none, .load (.slot 22) false 1 false⟩,
                   ⟨some 24, none, .bin false .eql (.slot 23) (.lit (.c (.d (.v (.int .i64 1)))))⟩,
                   ⟨some 25, none, .move (.slot 24) false⟩,
                   ⟨some 26, some (25, true), .fieldAddr (.slot 6) 1⟩,
                   ⟨some 27, some (25, true), .load (.slot 26) false 1 false⟩,
                   ⟨some 28, some (25, true), .len (.slot 27)⟩,
                   ⟨some 29, some (25, true), .bin false .gtr (.slot 28) (.lit (.c (.d (.v (.int .i64 0)))))⟩,
                   ⟨some 30, none, .pick (.slot 25) (.slot 29) (.lit (.c (.d (.v (.bool false)))))⟩,
                   ⟨some 21, none, .move (.slot 30) true⟩])
                  (.cond (.slot 21)
                   (.seq
                    (.draw [(2, 5)] [⟨some 31, none, .move (.slot 3) true⟩,
                     ⟨some 32, none, .move (.slot 4) false⟩,
                     ⟨some 33, none, .call 84 [.slot 32]⟩,
                     ⟨some 34, none, .append false 65 2 32 (.slot 31) (.slot 33)⟩,
                     ⟨some 35, none, .fieldAddr (.slot 6) 1⟩,
                     ⟨some 36, none, .load (.slot 35) false 1 false⟩,
                     ⟨some 37, none, .call 58 [.slot 36]⟩,
                     ⟨some 38, none, .build [.d (.v (.int .i64 0)), .nilsl] [(0, (1, .lit (.c (.d (.v (.int .i64 1)))))), (1, (1, .slot 37))]⟩,
                     ⟨some 39, none, .buildSlice 65 2 1 [.v (.int .i64 0), .sl []] [(0, .slot 38)]⟩,
                     ⟨some 40, none, .append false 65 2 32 (.slot 34) (.slot 39)⟩,
                     ⟨some 3, none, .move (.slot 40) true⟩])
                    (.region [⟨some 4, none, .move (.lit (.c .nilsl)) true⟩]))
                   .skip)))))))
            (.region [⟨some 41, none, .bin false .add (.slot 9) (.lit (.c (.d (.v (.int .i64 1)))))⟩,
             ⟨some 9, none, .move (.slot 41) false⟩])))))))
      (.seq
       (.region [⟨some 42, none, .move (.slot 3) true⟩,
        ⟨some 43, none, .move (.slot 4) false⟩,
        ⟨some 44, none, .call 84 [.slot 43]⟩,
        ⟨some 45, none, .append false 65 2 32 (.slot 42) (.slot 44)⟩,
        ⟨some 2, none, .move (.slot 45) true⟩])
       .ret)))))

theorem F_path_norm : Fn Try.prog 73 Try.f73 46 [17,31,42] [.t 2] c_path_norm where
  hm := by kernel_rfl
  hf := Try.func73
  hb := by kernel_rfl
  hc := by kernel_rfl
  hts := by kernel_rfl
  hnd := by decide
  hn := Nat.le_of_eq (by kernel_rfl)

def c_slices_Clone_uint32_uint32 : VC :=
  (.seq
   (.region [⟨some 2, none, .move (.lit (.c .nilsl)) true⟩])
   (.seq
    (.seq
     (.nilq [⟨some 3, none, .move (.slot 0) false⟩] 4 false (.slot 3))
     (.cond (.slot 4)
      (.seq
       (.region [⟨some 2, none, .move (.lit (.c .nilsl)) true⟩])
       .ret)
      .skip))
    (.seq
     (.region [⟨some 5, none, .buildSlice 25 1 0 [.v (.int .u32 0)] []⟩,
      ⟨some 6, none, .move (.slot 0) false⟩,
      ⟨some 7, none, .append false 25 1 4 (.slot 5) (.slot 6)⟩,
      ⟨some 2, none, .move (.slot 7) true⟩])
     .ret)))

theorem F_slices_Clone_uint32_uint32 : Fn Try.prog 74 Try.f74 8 [] [.t 2] c_slices_Clone_uint32_uint32 where
  hm := by kernel_rfl
  hf := Try.func74
  hb := by kernel_rfl
  hc := by kernel_rfl
  hts := by kernel_rfl
  hnd := by decide
  hn := Nat.le_of_eq (by kernel_rfl)

def c_slices_Sort_uint32_uint32 : VC :=
  (.seq
   (.region [⟨some 3, none, .move (.slot 0) false⟩,
    ⟨some 4, none, .len (.slot 3)⟩,
    ⟨some 2, none, .move (.slot 4) true⟩])
   (.region [⟨some 5, none, .move (.slot 0) false⟩,
    ⟨some 6, none, .move (.slot 2) false⟩,
    ⟨some 7, none, .move (.slot 2) false⟩,
    ⟨some 8, none, .conv .u64 (.slot 7)⟩,
    ⟨some 9, none, .call 86 [.slot 8]⟩,
    ⟨some 10, none, .call 85 [.slot 5, .lit (.c (.d (.v (.int .i64 0)))), .slot 6, .slot 9]⟩]))

theorem F_slices_Sort_uint32_uint32 : Fn Try.prog 75 Try.f75 11 [] [] c_slices_Sort_uint32_uint32 where
  hm := by kernel_rfl
  hf := Try.func75
  hb := by kernel_rfl
  hc := by kernel_rfl
  hts := by kernel_rfl
  hnd := by decide
  hn := Nat.le_of_eq (by kernel_rfl)

def c_slices_Compact_uint32_uint32 : VC :=
  (.seq
   (.region [⟨some 2, none, .move (.lit (.c .nilsl)) true⟩])
   (.seq
    (.seq
     (.region [⟨some 6, none, .move (.slot 0) false⟩,
      ⟨some 7, none, .len (.slot 6)⟩,
      ⟨some 8, none, .bin false .lss (.slot 7) (.lit (.c (.d (.v (.int .i64 2)))))⟩])
     (.cond (.slot 8)
      (.seq
       (.region [⟨some 9, none, .move (.slot 0) true⟩,
        ⟨some 2, none, .move (.slot 9) true⟩])
       .ret)
      .skip))
    (.seq
     (.seq
      (.region [⟨some 3, none, .move (.lit (.c (.d (.v (.int .i64 1))))) true⟩])
      (.block 0
       (.loop
        (.seq
         (.seq
          (.region [⟨some 10, none, .move (.slot 3) false⟩,
           ⟨some 11, none, .move (.slot 0) false⟩,
           ⟨some 12, none, .len (.slot 11)⟩,
           ⟨some 13, none, .bin false .lss (.slot 10) (.slot 12)⟩])
          (.cond (.slot 13)
           .skip
           (.exit 0)))
         (.seq
          (.block 1
           (.seq
            (.draw [] [⟨some 16, none, .move (.slot 0) false⟩,
             ⟨some 17, none, .move (.slot 3) false⟩,
             ⟨some 18, none, .indexAddr (.slot 16) (.slot 17) 1⟩,
             ⟨some 19, none, .load (.slot 18) false 1 false⟩,
             ⟨some 20, none, .move (.slot 0) false⟩,
             ⟨some 21, none, .move (.slot 3) false⟩,
             ⟨some 22, none, .bin false .sub (.slot 21) (.lit (.c (.d (.v (.int .i64 1)))))⟩,
             ⟨some 23, none, .indexAddr (.slot 20) (.slot 22) 1⟩,
             ⟨some 24, none, .load (.slot 23) false 1 false⟩,
             ⟨some 25, none, .bin false .eql (.slot 19) (.slot 24)⟩])
            (.cond (.slot 25)
             (.seq
              (.region [⟨some 26, none, .move (.slot 0) false⟩,
               ⟨some 27, none, .move (.slot 3) false⟩,
               ⟨some 28, none, .slice 1 (.slot 26) (some (.slot 27)) none none⟩,
               ⟨some 4, none, .move (.slot 28) true⟩])
              (.seq
               (.seq
                (.region [⟨some 5, none, .move (.lit (.c (.d (.v (.int .i64 1))))) true⟩])
                (.block 2
                 (.loop
                  (.seq
                   (.seq
                    (.region [⟨some 29, none, .move (.slot 5) false⟩,
                     ⟨some 30, none, .move (.slot 4) false⟩,
                     ⟨some 31, none, .len (.slot 30)⟩,
                     ⟨some 32, none, .bin false .lss (.slot 29) (.slot 31)⟩])
                    (.cond (.slot 32)
                     .skip
                     (.exit 2)))
                   (.seq
                    (.block 3
                     (.seq
                      (.draw [] [⟨some 35, none, .move (.slot 4) false⟩,
                       ⟨some 36, none, .move (.slot 5) false⟩,
                       ⟨some 37, none, .indexAddr (.slot 35) (.slot 36) 1⟩,
                       ⟨some 38, none, .load (.slot 37) false 1 false⟩,
                       ⟨some 39, none, .move (.slot 4) false⟩,
                       ⟨some 40, none, .move (.slot 5) false⟩,
                       ⟨some 41, none, .bin false .sub (.slot 40) (.lit (.c (.d (.v (.int .i64 1)))))⟩,
                       ⟨some 42, none, .indexAddr (.slot 39) (.slot 41) 1⟩,
                       ⟨some 43, none, .load (.slot 42) false 1 false⟩,
                       ⟨some 44, none, .bin false .neq (.slot 38) (.slot 43)⟩])
                      (.cond (.slot 44)
                       (.seq
                        (.region [⟨some 45, none, .move (.slot 0) false⟩,
                         ⟨some 46, none, .move (.slot 3) false⟩,
                         ⟨some 47, none, .move (.slot 4) false⟩,
                         ⟨some 48, none, .move (.slot 5) false⟩,
                         ⟨some 49, none, .indexAddr (.slot 47) (.slot 48) 1⟩,
                         ⟨some 50, none, .load (.slot 49) false 1 false⟩,
                         ⟨some 51, none, .indexAddr (.slot 45) (.slot 46) 1⟩,
                         ⟨none, none, .store (.slot 51) (.slot 50) 1⟩])
                        (.region [⟨some 52, none, .move (.slot 3) false⟩,
                         ⟨some 53, none, .bin false .add (.slot 52) (.lit (.c (.d (.v (.int .i64 1)))))⟩,
                         ⟨some 3, none, .move (.slot 53) true⟩]))
                       .skip)))
                    (.region [⟨some 33, none, .move (.slot 5) false⟩,
                     ⟨some 34, none, .bin false .add (.slot 33) (.lit (.c (.d (.v (.int .i64 1)))))⟩,
                     ⟨some 5, none, .move (.slot 34) true⟩]))))))
               (.seq
                (.region [⟨some 54, none, .move (.slot 0) false⟩,
                 ⟨some 55, none, .move (.slot 3) false⟩,
                 ⟨some 56, none, .slice 1 (.slot 54) (some (.slot 55)) none none⟩,
                 ⟨none, none, .clear (.slot 56) [.d (.v (.int .u32 0))]⟩])
                (.seq
                 (.region [⟨some 57, none, .move (.slot 0) false⟩,
                  ⟨some 58, none, .move (.slot 3) false⟩,
                  ⟨some 59, none, .slice 1 (.slot 57) none (some (.slot 58)) none⟩,
                  ⟨some 2, none, .move (.slot 59) true⟩])
                 .ret))))
             .skip)))
          (.region [⟨some 14, none, .move (.slot 3) false⟩,
           ⟨some 15, none, .bin false .add (.slot 14) (.lit (.c (.d (.v (.int .i64 1)))))⟩,
           ⟨some 3, none, .move (.slot 15) true⟩]))))))
     (.seq
      (.region [⟨some 60, none, .move (.slot 0) true⟩,
       ⟨some 2, none, .move (.slot 60) true⟩])
      .ret))))

theorem F_slices_Compact_uint32_uint32 : Fn Try.prog 76 Try.f76 61 [9,60] [.t 2] c_slices_Compact_uint32_uint32 where
  hm := by kernel_rfl
  hf := Try.func76
  hb := by kernel_rfl
  hc := by kernel_rfl
  hts := by kernel_rfl
  hnd := by decide
  hn := Nat.le_of_eq (by kernel_rfl)

def c_r04_put : VC :=
  (.seq
   (.region [⟨some 4, none, .move (.lit (.c .nilsl)) true⟩])
   (.seq
    (.region [⟨some 7, none, .move (.slot 0) false⟩,
     ⟨some 8, none, .len (.slot 7)⟩,
     ⟨some 9, none, .bin false .sub (.slot 8) (.lit (.c (.d (.v (.int .i64 1)))))⟩,
     ⟨some 5, none, .move (.slot 9) true⟩])
    (.seq
     (.seq
      (.region [⟨some 10, none, .move (.slot 5) false⟩,
       ⟨some 11, none, .bin false .geq (.slot 10) (.lit (.c (.d (.v (.int .i64 0)))))⟩,
       ⟨some 12, none, .move (.slot 11) false⟩,
       ⟨some 13, some (12, true), .move (.slot 0) false⟩,
       ⟨some 14, some (12, true), .move (.slot 5) false⟩,
       ⟨some 15, some (12, true), .indexAddr (.slot 13) (.slot 14) 2⟩,
       ⟨some 16, some (12, true), .fieldAddr (.slot 15) 0⟩,
       ⟨some 17, some (12, true), .load (.slot 16) false 1 false⟩,
       ⟨some 18, some (12, true), .bin false .eql (.slot 17) (.lit (.c (.d (.v (.int .i64 2)))))⟩,
       ⟨some 19, none, .pick (.slot 12) (.slot 18) (.lit (.c (.d (.v (.bool false)))))⟩,
       ⟨some 20, none, .move (.slot 19) false⟩,
       ⟨some 21, some (20, true), .move (.slot 0) false⟩,
       ⟨some 22, some (20, true), .move (.slot 5) false⟩,
       ⟨some 23, some (20, true), .indexAddr (.slot 21) (.slot 22) 2⟩,
       ⟨some 24, some (20, true), .fieldAddr (.slot 23) 1⟩,
       ⟨some 25, some (20, true), .load (.slot 24) false 1 false⟩,
       ⟨some 26, some (20, true), .len (.slot 25)⟩,
       ⟨some 27, some (20, true), .bin false .lss (.slot 26) (.lit (.c (.d (.v (.int .i64 255)))))⟩,
       ⟨some 28, none, .pick (.slot 20) (.slot 27) (.lit (.c (.d (.v (.bool false)))))⟩])
      (.cond (.slot 28)
       (.seq
        (.region [⟨some 29, none, .buildSlice 65 2 0 [.v (.int .i64 0), .sl []] []⟩,
         ⟨some 30, none, .move (.slot 0) false⟩,
         ⟨some 31, none, .move (.slot 5) false⟩,
         ⟨some 32, none, .slice 2 (.slot 30) none (some (.slot 31)) none⟩,
         ⟨some 33, none, .append false 65 2 32 (.slot 29) (.slot 32)⟩,
         ⟨some 6, none, .move (.slot 33) true⟩])
        (.seq
         (.region [⟨some 34, none, .move (.slot 6) true⟩,
          ⟨some 35, none, .buildSlice 25 1 0 [.v (.int .u32 0)] []⟩,
          ⟨some 36, none, .move (.slot 0) false⟩,
          ⟨some 37, none, .move (.slot 5) false⟩,
          ⟨some 38, none, .indexAddr (.slot 36) (.slot 37) 2⟩,
          ⟨some 39, none, .fieldAddr (.slot 38) 1⟩,
          ⟨some 40, none, .load (.slot 39) false 1 false⟩,
          ⟨some 41, none, .append false 25 1 4 (.slot 35) (.slot 40)⟩,
          ⟨some 42, none, .move (.slot 1) false⟩,
          ⟨some 43, none, .buildSlice 25 1 1 [.v (.int .u32 0)] [(0, .slot 42)]⟩,
          ⟨some 44, none, .append false 25 1 4 (.slot 41) (.slot 43)⟩,
          ⟨some 45, none, .build [.d (.v (.int .i64 0)), .nilsl] [(0, (1, .lit (.c (.d (.v (.int .i64 2)))))), (1, (1, .slot 44))]⟩,
          ⟨some 46, none, .buildSlice 65 2 1 [.v (.int .i64 0), .sl []] [(0, .slot 45)]⟩,
          ⟨some 47, none, .append false 65 2 32 (.slot 34) (.slot 46)⟩,
          ⟨some 4, none, .move (.slot 47) true⟩])
         .ret))
       .skip))
     (.seq
      (.region [⟨some 48, none, .buildSlice 65 2 0 [.v (.int .i64 0), .sl []] []⟩,
       ⟨some 49, none, .move (.slot 0) false⟩,
       ⟨some 50, none, .append false 65 2 32 (.slot 48) (.slot 49)⟩,
       ⟨some 51, none, .move (.slot 1) false⟩,
       ⟨some 52, none, .buildSlice 25 1 1 [.v (.int .u32 0)] [(0, .slot 51)]⟩,
       ⟨some 53, none, .build [.d (.v (.int .i64 0)), .nilsl] [(0, (1, .lit (.c (.d (.v (.int .i64 2)))))), (1, (1, .slot 52))]⟩,
       ⟨some 54, none, .buildSlice 65 2 1 [.v (.int .i64 0), .sl []] [(0, .slot 53)]⟩,
       ⟨some 55, none, .append false 65 2 32 (.slot 50) (.slot 54)⟩,
       ⟨some 4, none, .move (.slot 55) true⟩])
      .ret))))

theorem F_r04_put : Fn Try.prog 77 Try.f77 56 [34] [.t 4] c_r04_put where
  hm := by kernel_rfl
  hf := Try.func77
  hb := by kernel_rfl
  hc := by kernel_rfl
  hts := by kernel_rfl
  hnd := by decide
  hn := Nat.le_of_eq (by kernel_rfl)

end Go.V

