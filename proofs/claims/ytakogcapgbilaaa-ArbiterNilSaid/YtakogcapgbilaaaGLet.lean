import Derived.Test.YtakogcapgbilaaaProg
import Derived.KernelRfl
import Derived.Test.YtakogcapgbilaaaSeM
open Go Go.SE
namespace Go.Proofs
attribute [local irreducible] wpL wpX opE wpE Calls
def m_ref11_Tree (lKind1 : Int) (lFrom1 : Int) (lC1 : Int) (lText1 : ByteArray) (lFake1 : Bool) (first1 : Bool) (second1 : Bool) (w : World) (K : Int → Int → Int → Int → ByteArray → Sl → World → Prop) : Prop :=
  ∀ (p1 : Addr) (w1 : World), New w (.cells #[(.int .i64 lKind1), (.int .i64 lFrom1), (.int .u64 lC1), (.string lText1), (.bool lFake1)] 132) p1 w1 →
  ∀ (p2 : Addr) (w2 : World), New w1 (.cells #[(.int .i64 0), (.int .i64 0), (.int .i64 0), (.int .u64 0), (.string (⟨#[]⟩ : ByteArray)), Sl.nil.v] 116) p2 w2 →
  ∃ v1 : Int, w2.cell? (p1.add 2) = some (.int .u64 v1) ∧
  ∃ v2 : ByteArray, w2.cell? (p1.add 3) = some (.string v2) ∧
  Calls Try.prog 119 #[(.int .u64 v1), (.string v2)] w2 (fun e w3 => ∃ rKind1 : Int, ∃ rFrom1 : Int, ∃ rTo1 : Int, ∃ rNum1 : Int, ∃ rText1 : ByteArray, ∃ rKids1 : Sl, e = .returned (.agg #[(.int .i64 rKind1), (.int .i64 rFrom1), (.int .i64 rTo1), (.int .u64 rNum1), (.string rText1), rKids1.v]) ∧ 
    ∀ (p3 : Addr) (w4 : World), New w3 (.cells #[(.int .i64 0), (.int .i64 0), (.int .i64 0), (.int .u64 0), (.string (⟨#[]⟩ : ByteArray)), Sl.nil.v] 116) p3 w4 →
    (∀ j, j < 6 → CanW w4 (p3.add j)) ∧ ∀ w5 : World, w5 = storeRow w4 p3 [(.int .i64 rKind1), (.int .i64 rFrom1), (.int .i64 rTo1), (.int .u64 rNum1), (.string rText1), rKids1.v] →
    ∃ v3 : Int, w5.cell? p1 = some (.int .i64 v3) ∧
    Br ((v3 : Int) == 1)
      (∃ v4 : Int, w5.cell? (p1.add 1) = some (.int .i64 v4) ∧
      ∃ vKind1 : Int, ∃ vFrom1 : Int, ∃ vTo1 : Int, ∃ vNum1 : Int, ∃ vText1 : ByteArray, ∃ vKids1 : Sl, Row w5 p3 [(.int .i64 vKind1), (.int .i64 vFrom1), (.int .i64 vTo1), (.int .u64 vNum1), (.string vText1), vKids1.v] ∧
      ∃ v5 : Bool, w5.cell? (p1.add 4) = some (.bool v5) ∧
      Calls Try.prog 120 #[(.int .i64 v4), (.agg #[(.int .i64 vKind1), (.int .i64 vFrom1), (.int .i64 vTo1), (.int .u64 vNum1), (.string vText1), vKids1.v]), (.bool v5)] w5 (fun e w6 => ∃ rKind2 : Int, ∃ rFrom2 : Int, ∃ rTo2 : Int, ∃ rNum2 : Int, ∃ rText2 : ByteArray, ∃ rKids2 : Sl, e = .returned (.agg #[(.int .i64 rKind2), (.int .i64 rFrom2), (.int .i64 rTo2), (.int .u64 rNum2), (.string rText2), rKids2.v]) ∧ 
        (∀ j, j < 6 → CanW w6 (p2.add j)) ∧ ∀ w7 : World, w7 = storeRow w6 p2 [(.int .i64 rKind2), (.int .i64 rFrom2), (.int .i64 rTo2), (.int .u64 rNum2), (.string rText2), rKids2.v] →
        ∃ qKind1 : Int, ∃ qFrom1 : Int, ∃ qTo1 : Int, ∃ qNum1 : Int, ∃ qText1 : ByteArray, ∃ qKids1 : Sl, Row w7 p2 [(.int .i64 qKind1), (.int .i64 qFrom1), (.int .i64 qTo1), (.int .u64 qNum1), (.string qText1), qKids1.v] ∧
        K qKind1 qFrom1 qTo1 qNum1 qText1 qKids1 w7))
      (Br ((v3 : Int) == 2)
        (∃ v6 : Int, w5.cell? (p1.add 1) = some (.int .i64 v6) ∧
        ∃ vKind2 : Int, ∃ vFrom2 : Int, ∃ vTo2 : Int, ∃ vNum2 : Int, ∃ vText2 : ByteArray, ∃ vKids2 : Sl, Row w5 p3 [(.int .i64 vKind2), (.int .i64 vFrom2), (.int .i64 vTo2), (.int .u64 vNum2), (.string vText2), vKids2.v] ∧
        Calls Try.prog 121 #[(.int .i64 v6), (.agg #[(.int .i64 vKind2), (.int .i64 vFrom2), (.int .i64 vTo2), (.int .u64 vNum2), (.string vText2), vKids2.v])] w5 (fun e w8 => ∃ rKind3 : Int, ∃ rFrom3 : Int, ∃ rTo3 : Int, ∃ rNum3 : Int, ∃ rText3 : ByteArray, ∃ rKids3 : Sl, e = .returned (.agg #[(.int .i64 rKind3), (.int .i64 rFrom3), (.int .i64 rTo3), (.int .u64 rNum3), (.string rText3), rKids3.v]) ∧ 
          (∀ j, j < 6 → CanW w8 (p2.add j)) ∧ ∀ w9 : World, w9 = storeRow w8 p2 [(.int .i64 rKind3), (.int .i64 rFrom3), (.int .i64 rTo3), (.int .u64 rNum3), (.string rText3), rKids3.v] →
          ∃ qKind2 : Int, ∃ qFrom2 : Int, ∃ qTo2 : Int, ∃ qNum2 : Int, ∃ qText2 : ByteArray, ∃ qKids2 : Sl, Row w9 p2 [(.int .i64 qKind2), (.int .i64 qFrom2), (.int .i64 qTo2), (.int .u64 qNum2), (.string qText2), qKids2.v] ∧
          K qKind2 qFrom2 qTo2 qNum2 qText2 qKids2 w9))
        (Br ((v3 : Int) == 3)
          (∃ C1 : World → Prop, C1 w5.drew ∧ ∀ w10, w10 = w5.drew →
          ∃ v7 : Int, (∀ w', C1 w' → w'.cell? (p1.add 2) = some (.int .u64 v7)) ∧
          Calls Try.prog 123 #[(.string (⟨#[97, 98, 111, 114, 116]⟩ : ByteArray))] w10 (fun e w11 => ∃ rKind4 : Int, ∃ rFrom4 : Int, ∃ rTo4 : Int, ∃ rNum4 : Int, ∃ rText4 : ByteArray, ∃ rKids4 : Sl, e = .returned (.agg #[(.int .i64 rKind4), (.int .i64 rFrom4), (.int .i64 rTo4), (.int .u64 rNum4), (.string rText4), rKids4.v]) ∧ C1 w11 ∧ 
            Calls Try.prog 124 #[(.int .u64 v7)] w11 (fun e w12 => ∃ rKind5 : Int, ∃ rFrom5 : Int, ∃ rTo5 : Int, ∃ rNum5 : Int, ∃ rText5 : ByteArray, ∃ rKids5 : Sl, e = .returned (.agg #[(.int .i64 rKind5), (.int .i64 rFrom5), (.int .i64 rTo5), (.int .u64 rNum5), (.string rText5), rKids5.v]) ∧ 
              Calls Try.prog 122 #[(.agg #[(.int .i64 rKind4), (.int .i64 rFrom4), (.int .i64 rTo4), (.int .u64 rNum4), (.string rText4), rKids4.v]), (.agg #[(.int .i64 rKind5), (.int .i64 rFrom5), (.int .i64 rTo5), (.int .u64 rNum5), (.string rText5), rKids5.v])] w12 (fun e w13 => ∃ rKind6 : Int, ∃ rFrom6 : Int, ∃ rTo6 : Int, ∃ rNum6 : Int, ∃ rText6 : ByteArray, ∃ rKids6 : Sl, e = .returned (.agg #[(.int .i64 rKind6), (.int .i64 rFrom6), (.int .i64 rTo6), (.int .u64 rNum6), (.string rText6), rKids6.v]) ∧ 
                Calls Try.prog 121 #[(.int .i64 0), (.agg #[(.int .i64 rKind6), (.int .i64 rFrom6), (.int .i64 rTo6), (.int .u64 rNum6), (.string rText6), rKids6.v])] w13 (fun e w14 => ∃ rKind7 : Int, ∃ rFrom7 : Int, ∃ rTo7 : Int, ∃ rNum7 : Int, ∃ rText7 : ByteArray, ∃ rKids7 : Sl, e = .returned (.agg #[(.int .i64 rKind7), (.int .i64 rFrom7), (.int .i64 rTo7), (.int .u64 rNum7), (.string rText7), rKids7.v]) ∧ 
                  (∀ j, j < 6 → CanW w14 (p2.add j)) ∧ ∀ w15 : World, w15 = storeRow w14 p2 [(.int .i64 rKind7), (.int .i64 rFrom7), (.int .i64 rTo7), (.int .u64 rNum7), (.string rText7), rKids7.v] →
                  ∃ qKind3 : Int, ∃ qFrom3 : Int, ∃ qTo3 : Int, ∃ qNum3 : Int, ∃ qText3 : ByteArray, ∃ qKids3 : Sl, Row w15 p2 [(.int .i64 qKind3), (.int .i64 qFrom3), (.int .i64 qTo3), (.int .u64 qNum3), (.string qText3), qKids3.v] ∧
                  K qKind3 qFrom3 qTo3 qNum3 qText3 qKids3 w15)))))
          (Br ((v3 : Int) == 4)
            (∃ C2 : World → Prop, C2 w5.drew ∧ ∀ w16, w16 = w5.drew →
            ∃ v8 : Int, (∀ w', C2 w' → w'.cell? (p1.add 1) = some (.int .i64 v8)) ∧
            ∃ vKind3 : Int, ∃ vFrom3 : Int, ∃ vTo3 : Int, ∃ vNum3 : Int, ∃ vText3 : ByteArray, ∃ vKids3 : Sl, (∀ w', C2 w' → Row w' p3 [(.int .i64 vKind3), (.int .i64 vFrom3), (.int .i64 vTo3), (.int .u64 vNum3), (.string vText3), vKids3.v]) ∧
            ∃ v9 : Bool, (∀ w', C2 w' → w'.cell? (p1.add 4) = some (.bool v9)) ∧
            ∃ vKind4 : Int, ∃ vFrom4 : Int, ∃ vTo4 : Int, ∃ vNum4 : Int, ∃ vText4 : ByteArray, ∃ vKids4 : Sl, (∀ w', C2 w' → Row w' p3 [(.int .i64 vKind4), (.int .i64 vFrom4), (.int .i64 vTo4), (.int .u64 vNum4), (.string vText4), vKids4.v]) ∧
            ∃ v10 : Bool, (∀ w', C2 w' → w'.cell? (p1.add 4) = some (.bool v10)) ∧
            Calls Try.prog 123 #[(.string (⟨#[114, 101, 115, 111, 108, 118, 101]⟩ : ByteArray))] w16 (fun e w17 => ∃ rKind8 : Int, ∃ rFrom8 : Int, ∃ rTo8 : Int, ∃ rNum8 : Int, ∃ rText8 : ByteArray, ∃ rKids8 : Sl, e = .returned (.agg #[(.int .i64 rKind8), (.int .i64 rFrom8), (.int .i64 rTo8), (.int .u64 rNum8), (.string rText8), rKids8.v]) ∧ C2 w17 ∧ 
              Br v9
                (Calls Try.prog 120 #[(.int .i64 0), (.agg #[(.int .i64 vKind3), (.int .i64 vFrom3), (.int .i64 vTo3), (.int .u64 vNum3), (.string vText3), vKids3.v]), (.bool first1)] w17 (fun e w18 => ∃ rKind9 : Int, ∃ rFrom9 : Int, ∃ rTo9 : Int, ∃ rNum9 : Int, ∃ rText9 : ByteArray, ∃ rKids9 : Sl, e = .returned (.agg #[(.int .i64 rKind9), (.int .i64 rFrom9), (.int .i64 rTo9), (.int .u64 rNum9), (.string rText9), rKids9.v]) ∧ C2 w18 ∧ 
                  Br v10
                    (Calls Try.prog 120 #[(.int .i64 1), (.agg #[(.int .i64 vKind4), (.int .i64 vFrom4), (.int .i64 vTo4), (.int .u64 vNum4), (.string vText4), vKids4.v]), (.bool second1)] w18 (fun e w19 => ∃ rKind10 : Int, ∃ rFrom10 : Int, ∃ rTo10 : Int, ∃ rNum10 : Int, ∃ rText10 : ByteArray, ∃ rKids10 : Sl, e = .returned (.agg #[(.int .i64 rKind10), (.int .i64 rFrom10), (.int .i64 rTo10), (.int .u64 rNum10), (.string rText10), rKids10.v]) ∧ C2 w19 ∧ 
                      Calls Try.prog 122 #[(.agg #[(.int .i64 rKind9), (.int .i64 rFrom9), (.int .i64 rTo9), (.int .u64 rNum9), (.string rText9), rKids9.v]), (.agg #[(.int .i64 rKind10), (.int .i64 rFrom10), (.int .i64 rTo10), (.int .u64 rNum10), (.string rText10), rKids10.v])] w19 (fun e w20 => ∃ rKind11 : Int, ∃ rFrom11 : Int, ∃ rTo11 : Int, ∃ rNum11 : Int, ∃ rText11 : ByteArray, ∃ rKids11 : Sl, e = .returned (.agg #[(.int .i64 rKind11), (.int .i64 rFrom11), (.int .i64 rTo11), (.int .u64 rNum11), (.string rText11), rKids11.v]) ∧ C2 w20 ∧ 
                        Calls Try.prog 122 #[(.agg #[(.int .i64 rKind8), (.int .i64 rFrom8), (.int .i64 rTo8), (.int .u64 rNum8), (.string rText8), rKids8.v]), (.agg #[(.int .i64 rKind11), (.int .i64 rFrom11), (.int .i64 rTo11), (.int .u64 rNum11), (.string rText11), rKids11.v])] w20 (fun e w21 => ∃ rKind12 : Int, ∃ rFrom12 : Int, ∃ rTo12 : Int, ∃ rNum12 : Int, ∃ rText12 : ByteArray, ∃ rKids12 : Sl, e = .returned (.agg #[(.int .i64 rKind12), (.int .i64 rFrom12), (.int .i64 rTo12), (.int .u64 rNum12), (.string rText12), rKids12.v]) ∧ C2 w21 ∧ 
                          Calls Try.prog 121 #[(.int .i64 v8), (.agg #[(.int .i64 rKind12), (.int .i64 rFrom12), (.int .i64 rTo12), (.int .u64 rNum12), (.string rText12), rKids12.v])] w21 (fun e w22 => ∃ rKind13 : Int, ∃ rFrom13 : Int, ∃ rTo13 : Int, ∃ rNum13 : Int, ∃ rText13 : ByteArray, ∃ rKids13 : Sl, e = .returned (.agg #[(.int .i64 rKind13), (.int .i64 rFrom13), (.int .i64 rTo13), (.int .u64 rNum13), (.string rText13), rKids13.v]) ∧ 
                            (∀ j, j < 6 → CanW w22 (p2.add j)) ∧ ∀ w23 : World, w23 = storeRow w22 p2 [(.int .i64 rKind13), (.int .i64 rFrom13), (.int .i64 rTo13), (.int .u64 rNum13), (.string rText13), rKids13.v] →
                            ∃ qKind4 : Int, ∃ qFrom4 : Int, ∃ qTo4 : Int, ∃ qNum4 : Int, ∃ qText4 : ByteArray, ∃ qKids4 : Sl, Row w23 p2 [(.int .i64 qKind4), (.int .i64 qFrom4), (.int .i64 qTo4), (.int .u64 qNum4), (.string qText4), qKids4.v] ∧
                            K qKind4 qFrom4 qTo4 qNum4 qText4 qKids4 w23)))))
                    (Calls Try.prog 120 #[(.int .i64 1), (.agg #[(.int .i64 vKind4), (.int .i64 vFrom4), (.int .i64 vTo4), (.int .u64 vNum4), (.string vText4), vKids4.v]), (.bool false)] w18 (fun e w24 => ∃ rKind14 : Int, ∃ rFrom14 : Int, ∃ rTo14 : Int, ∃ rNum14 : Int, ∃ rText14 : ByteArray, ∃ rKids14 : Sl, e = .returned (.agg #[(.int .i64 rKind14), (.int .i64 rFrom14), (.int .i64 rTo14), (.int .u64 rNum14), (.string rText14), rKids14.v]) ∧ C2 w24 ∧ 
                      Calls Try.prog 122 #[(.agg #[(.int .i64 rKind9), (.int .i64 rFrom9), (.int .i64 rTo9), (.int .u64 rNum9), (.string rText9), rKids9.v]), (.agg #[(.int .i64 rKind14), (.int .i64 rFrom14), (.int .i64 rTo14), (.int .u64 rNum14), (.string rText14), rKids14.v])] w24 (fun e w25 => ∃ rKind15 : Int, ∃ rFrom15 : Int, ∃ rTo15 : Int, ∃ rNum15 : Int, ∃ rText15 : ByteArray, ∃ rKids15 : Sl, e = .returned (.agg #[(.int .i64 rKind15), (.int .i64 rFrom15), (.int .i64 rTo15), (.int .u64 rNum15), (.string rText15), rKids15.v]) ∧ C2 w25 ∧ 
                        Calls Try.prog 122 #[(.agg #[(.int .i64 rKind8), (.int .i64 rFrom8), (.int .i64 rTo8), (.int .u64 rNum8), (.string rText8), rKids8.v]), (.agg #[(.int .i64 rKind15), (.int .i64 rFrom15), (.int .i64 rTo15), (.int .u64 rNum15), (.string rText15), rKids15.v])] w25 (fun e w26 => ∃ rKind16 : Int, ∃ rFrom16 : Int, ∃ rTo16 : Int, ∃ rNum16 : Int, ∃ rText16 : ByteArray, ∃ rKids16 : Sl, e = .returned (.agg #[(.int .i64 rKind16), (.int .i64 rFrom16), (.int .i64 rTo16), (.int .u64 rNum16), (.string rText16), rKids16.v]) ∧ C2 w26 ∧ 
                          Calls Try.prog 121 #[(.int .i64 v8), (.agg #[(.int .i64 rKind16), (.int .i64 rFrom16), (.int .i64 rTo16), (.int .u64 rNum16), (.string rText16), rKids16.v])] w26 (fun e w27 => ∃ rKind17 : Int, ∃ rFrom17 : Int, ∃ rTo17 : Int, ∃ rNum17 : Int, ∃ rText17 : ByteArray, ∃ rKids17 : Sl, e = .returned (.agg #[(.int .i64 rKind17), (.int .i64 rFrom17), (.int .i64 rTo17), (.int .u64 rNum17), (.string rText17), rKids17.v]) ∧ 
                            (∀ j, j < 6 → CanW w27 (p2.add j)) ∧ ∀ w28 : World, w28 = storeRow w27 p2 [(.int .i64 rKind17), (.int .i64 rFrom17), (.int .i64 rTo17), (.int .u64 rNum17), (.string rText17), rKids17.v] →
                            ∃ qKind5 : Int, ∃ qFrom5 : Int, ∃ qTo5 : Int, ∃ qNum5 : Int, ∃ qText5 : ByteArray, ∃ qKids5 : Sl, Row w28 p2 [(.int .i64 qKind5), (.int .i64 qFrom5), (.int .i64 qTo5), (.int .u64 qNum5), (.string qText5), qKids5.v] ∧
                            K qKind5 qFrom5 qTo5 qNum5 qText5 qKids5 w28)))))))
                (Calls Try.prog 120 #[(.int .i64 0), (.agg #[(.int .i64 vKind3), (.int .i64 vFrom3), (.int .i64 vTo3), (.int .u64 vNum3), (.string vText3), vKids3.v]), (.bool false)] w17 (fun e w29 => ∃ rKind18 : Int, ∃ rFrom18 : Int, ∃ rTo18 : Int, ∃ rNum18 : Int, ∃ rText18 : ByteArray, ∃ rKids18 : Sl, e = .returned (.agg #[(.int .i64 rKind18), (.int .i64 rFrom18), (.int .i64 rTo18), (.int .u64 rNum18), (.string rText18), rKids18.v]) ∧ C2 w29 ∧ 
                  Br v10
                    (Calls Try.prog 120 #[(.int .i64 1), (.agg #[(.int .i64 vKind4), (.int .i64 vFrom4), (.int .i64 vTo4), (.int .u64 vNum4), (.string vText4), vKids4.v]), (.bool second1)] w29 (fun e w30 => ∃ rKind19 : Int, ∃ rFrom19 : Int, ∃ rTo19 : Int, ∃ rNum19 : Int, ∃ rText19 : ByteArray, ∃ rKids19 : Sl, e = .returned (.agg #[(.int .i64 rKind19), (.int .i64 rFrom19), (.int .i64 rTo19), (.int .u64 rNum19), (.string rText19), rKids19.v]) ∧ C2 w30 ∧ 
                      Calls Try.prog 122 #[(.agg #[(.int .i64 rKind18), (.int .i64 rFrom18), (.int .i64 rTo18), (.int .u64 rNum18), (.string rText18), rKids18.v]), (.agg #[(.int .i64 rKind19), (.int .i64 rFrom19), (.int .i64 rTo19), (.int .u64 rNum19), (.string rText19), rKids19.v])] w30 (fun e w31 => ∃ rKind20 : Int, ∃ rFrom20 : Int, ∃ rTo20 : Int, ∃ rNum20 : Int, ∃ rText20 : ByteArray, ∃ rKids20 : Sl, e = .returned (.agg #[(.int .i64 rKind20), (.int .i64 rFrom20), (.int .i64 rTo20), (.int .u64 rNum20), (.string rText20), rKids20.v]) ∧ C2 w31 ∧ 
                        Calls Try.prog 122 #[(.agg #[(.int .i64 rKind8), (.int .i64 rFrom8), (.int .i64 rTo8), (.int .u64 rNum8), (.string rText8), rKids8.v]), (.agg #[(.int .i64 rKind20), (.int .i64 rFrom20), (.int .i64 rTo20), (.int .u64 rNum20), (.string rText20), rKids20.v])] w31 (fun e w32 => ∃ rKind21 : Int, ∃ rFrom21 : Int, ∃ rTo21 : Int, ∃ rNum21 : Int, ∃ rText21 : ByteArray, ∃ rKids21 : Sl, e = .returned (.agg #[(.int .i64 rKind21), (.int .i64 rFrom21), (.int .i64 rTo21), (.int .u64 rNum21), (.string rText21), rKids21.v]) ∧ C2 w32 ∧ 
                          Calls Try.prog 121 #[(.int .i64 v8), (.agg #[(.int .i64 rKind21), (.int .i64 rFrom21), (.int .i64 rTo21), (.int .u64 rNum21), (.string rText21), rKids21.v])] w32 (fun e w33 => ∃ rKind22 : Int, ∃ rFrom22 : Int, ∃ rTo22 : Int, ∃ rNum22 : Int, ∃ rText22 : ByteArray, ∃ rKids22 : Sl, e = .returned (.agg #[(.int .i64 rKind22), (.int .i64 rFrom22), (.int .i64 rTo22), (.int .u64 rNum22), (.string rText22), rKids22.v]) ∧ 
                            (∀ j, j < 6 → CanW w33 (p2.add j)) ∧ ∀ w34 : World, w34 = storeRow w33 p2 [(.int .i64 rKind22), (.int .i64 rFrom22), (.int .i64 rTo22), (.int .u64 rNum22), (.string rText22), rKids22.v] →
                            ∃ qKind6 : Int, ∃ qFrom6 : Int, ∃ qTo6 : Int, ∃ qNum6 : Int, ∃ qText6 : ByteArray, ∃ qKids6 : Sl, Row w34 p2 [(.int .i64 qKind6), (.int .i64 qFrom6), (.int .i64 qTo6), (.int .u64 qNum6), (.string qText6), qKids6.v] ∧
                            K qKind6 qFrom6 qTo6 qNum6 qText6 qKids6 w34)))))
                    (Calls Try.prog 120 #[(.int .i64 1), (.agg #[(.int .i64 vKind4), (.int .i64 vFrom4), (.int .i64 vTo4), (.int .u64 vNum4), (.string vText4), vKids4.v]), (.bool false)] w29 (fun e w35 => ∃ rKind23 : Int, ∃ rFrom23 : Int, ∃ rTo23 : Int, ∃ rNum23 : Int, ∃ rText23 : ByteArray, ∃ rKids23 : Sl, e = .returned (.agg #[(.int .i64 rKind23), (.int .i64 rFrom23), (.int .i64 rTo23), (.int .u64 rNum23), (.string rText23), rKids23.v]) ∧ C2 w35 ∧ 
                      Calls Try.prog 122 #[(.agg #[(.int .i64 rKind18), (.int .i64 rFrom18), (.int .i64 rTo18), (.int .u64 rNum18), (.string rText18), rKids18.v]), (.agg #[(.int .i64 rKind23), (.int .i64 rFrom23), (.int .i64 rTo23), (.int .u64 rNum23), (.string rText23), rKids23.v])] w35 (fun e w36 => ∃ rKind24 : Int, ∃ rFrom24 : Int, ∃ rTo24 : Int, ∃ rNum24 : Int, ∃ rText24 : ByteArray, ∃ rKids24 : Sl, e = .returned (.agg #[(.int .i64 rKind24), (.int .i64 rFrom24), (.int .i64 rTo24), (.int .u64 rNum24), (.string rText24), rKids24.v]) ∧ C2 w36 ∧ 
                        Calls Try.prog 122 #[(.agg #[(.int .i64 rKind8), (.int .i64 rFrom8), (.int .i64 rTo8), (.int .u64 rNum8), (.string rText8), rKids8.v]), (.agg #[(.int .i64 rKind24), (.int .i64 rFrom24), (.int .i64 rTo24), (.int .u64 rNum24), (.string rText24), rKids24.v])] w36 (fun e w37 => ∃ rKind25 : Int, ∃ rFrom25 : Int, ∃ rTo25 : Int, ∃ rNum25 : Int, ∃ rText25 : ByteArray, ∃ rKids25 : Sl, e = .returned (.agg #[(.int .i64 rKind25), (.int .i64 rFrom25), (.int .i64 rTo25), (.int .u64 rNum25), (.string rText25), rKids25.v]) ∧ C2 w37 ∧ 
                          Calls Try.prog 121 #[(.int .i64 v8), (.agg #[(.int .i64 rKind25), (.int .i64 rFrom25), (.int .i64 rTo25), (.int .u64 rNum25), (.string rText25), rKids25.v])] w37 (fun e w38 => ∃ rKind26 : Int, ∃ rFrom26 : Int, ∃ rTo26 : Int, ∃ rNum26 : Int, ∃ rText26 : ByteArray, ∃ rKids26 : Sl, e = .returned (.agg #[(.int .i64 rKind26), (.int .i64 rFrom26), (.int .i64 rTo26), (.int .u64 rNum26), (.string rText26), rKids26.v]) ∧ 
                            (∀ j, j < 6 → CanW w38 (p2.add j)) ∧ ∀ w39 : World, w39 = storeRow w38 p2 [(.int .i64 rKind26), (.int .i64 rFrom26), (.int .i64 rTo26), (.int .u64 rNum26), (.string rText26), rKids26.v] →
                            ∃ qKind7 : Int, ∃ qFrom7 : Int, ∃ qTo7 : Int, ∃ qNum7 : Int, ∃ qText7 : ByteArray, ∃ qKids7 : Sl, Row w39 p2 [(.int .i64 qKind7), (.int .i64 qFrom7), (.int .i64 qTo7), (.int .u64 qNum7), (.string qText7), qKids7.v] ∧
                            K qKind7 qFrom7 qTo7 qNum7 qText7 qKids7 w39)))))))))
            (Br ((v3 : Int) == 5)
              (∃ C3 : World → Prop, C3 w5.drew ∧ ∀ w40, w40 = w5.drew →
              ∃ v11 : Int, (∀ w', C3 w' → w'.cell? (p1.add 2) = some (.int .u64 v11)) ∧
              Calls Try.prog 123 #[(.string (⟨#[97, 98, 111, 114, 116, 101, 100]⟩ : ByteArray))] w40 (fun e w41 => ∃ rKind27 : Int, ∃ rFrom27 : Int, ∃ rTo27 : Int, ∃ rNum27 : Int, ∃ rText27 : ByteArray, ∃ rKids27 : Sl, e = .returned (.agg #[(.int .i64 rKind27), (.int .i64 rFrom27), (.int .i64 rTo27), (.int .u64 rNum27), (.string rText27), rKids27.v]) ∧ C3 w41 ∧ 
                Calls Try.prog 124 #[(.int .u64 v11)] w41 (fun e w42 => ∃ rKind28 : Int, ∃ rFrom28 : Int, ∃ rTo28 : Int, ∃ rNum28 : Int, ∃ rText28 : ByteArray, ∃ rKids28 : Sl, e = .returned (.agg #[(.int .i64 rKind28), (.int .i64 rFrom28), (.int .i64 rTo28), (.int .u64 rNum28), (.string rText28), rKids28.v]) ∧ 
                  Calls Try.prog 122 #[(.agg #[(.int .i64 rKind27), (.int .i64 rFrom27), (.int .i64 rTo27), (.int .u64 rNum27), (.string rText27), rKids27.v]), (.agg #[(.int .i64 rKind28), (.int .i64 rFrom28), (.int .i64 rTo28), (.int .u64 rNum28), (.string rText28), rKids28.v])] w42 (fun e w43 => ∃ rKind29 : Int, ∃ rFrom29 : Int, ∃ rTo29 : Int, ∃ rNum29 : Int, ∃ rText29 : ByteArray, ∃ rKids29 : Sl, e = .returned (.agg #[(.int .i64 rKind29), (.int .i64 rFrom29), (.int .i64 rTo29), (.int .u64 rNum29), (.string rText29), rKids29.v]) ∧ 
                    Calls Try.prog 121 #[(.int .i64 2), (.agg #[(.int .i64 rKind29), (.int .i64 rFrom29), (.int .i64 rTo29), (.int .u64 rNum29), (.string rText29), rKids29.v])] w43 (fun e w44 => ∃ rKind30 : Int, ∃ rFrom30 : Int, ∃ rTo30 : Int, ∃ rNum30 : Int, ∃ rText30 : ByteArray, ∃ rKids30 : Sl, e = .returned (.agg #[(.int .i64 rKind30), (.int .i64 rFrom30), (.int .i64 rTo30), (.int .u64 rNum30), (.string rText30), rKids30.v]) ∧ 
                      (∀ j, j < 6 → CanW w44 (p2.add j)) ∧ ∀ w45 : World, w45 = storeRow w44 p2 [(.int .i64 rKind30), (.int .i64 rFrom30), (.int .i64 rTo30), (.int .u64 rNum30), (.string rText30), rKids30.v] →
                      ∃ qKind8 : Int, ∃ qFrom8 : Int, ∃ qTo8 : Int, ∃ qNum8 : Int, ∃ qText8 : ByteArray, ∃ qKids8 : Sl, Row w45 p2 [(.int .i64 qKind8), (.int .i64 qFrom8), (.int .i64 qTo8), (.int .u64 qNum8), (.string qText8), qKids8.v] ∧
                      K qKind8 qFrom8 qTo8 qNum8 qText8 qKids8 w45)))))
              (Br ((v3 : Int) == 6)
                (∃ C4 : World → Prop, C4 w5.drew ∧ ∀ w46, w46 = w5.drew →
                ∃ vKind5 : Int, ∃ vFrom5 : Int, ∃ vTo5 : Int, ∃ vNum5 : Int, ∃ vText5 : ByteArray, ∃ vKids5 : Sl, (∀ w', C4 w' → Row w' p3 [(.int .i64 vKind5), (.int .i64 vFrom5), (.int .i64 vTo5), (.int .u64 vNum5), (.string vText5), vKids5.v]) ∧
                Calls Try.prog 123 #[(.string (⟨#[105, 110, 115, 116, 101, 97, 100]⟩ : ByteArray))] w46 (fun e w47 => ∃ rKind31 : Int, ∃ rFrom31 : Int, ∃ rTo31 : Int, ∃ rNum31 : Int, ∃ rText31 : ByteArray, ∃ rKids31 : Sl, e = .returned (.agg #[(.int .i64 rKind31), (.int .i64 rFrom31), (.int .i64 rTo31), (.int .u64 rNum31), (.string rText31), rKids31.v]) ∧ C4 w47 ∧ 
                  Calls Try.prog 122 #[(.agg #[(.int .i64 rKind31), (.int .i64 rFrom31), (.int .i64 rTo31), (.int .u64 rNum31), (.string rText31), rKids31.v]), (.agg #[(.int .i64 vKind5), (.int .i64 vFrom5), (.int .i64 vTo5), (.int .u64 vNum5), (.string vText5), vKids5.v])] w47 (fun e w48 => ∃ rKind32 : Int, ∃ rFrom32 : Int, ∃ rTo32 : Int, ∃ rNum32 : Int, ∃ rText32 : ByteArray, ∃ rKids32 : Sl, e = .returned (.agg #[(.int .i64 rKind32), (.int .i64 rFrom32), (.int .i64 rTo32), (.int .u64 rNum32), (.string rText32), rKids32.v]) ∧ 
                    Calls Try.prog 121 #[(.int .i64 2), (.agg #[(.int .i64 rKind32), (.int .i64 rFrom32), (.int .i64 rTo32), (.int .u64 rNum32), (.string rText32), rKids32.v])] w48 (fun e w49 => ∃ rKind33 : Int, ∃ rFrom33 : Int, ∃ rTo33 : Int, ∃ rNum33 : Int, ∃ rText33 : ByteArray, ∃ rKids33 : Sl, e = .returned (.agg #[(.int .i64 rKind33), (.int .i64 rFrom33), (.int .i64 rTo33), (.int .u64 rNum33), (.string rText33), rKids33.v]) ∧ 
                      (∀ j, j < 6 → CanW w49 (p2.add j)) ∧ ∀ w50 : World, w50 = storeRow w49 p2 [(.int .i64 rKind33), (.int .i64 rFrom33), (.int .i64 rTo33), (.int .u64 rNum33), (.string rText33), rKids33.v] →
                      ∃ qKind9 : Int, ∃ qFrom9 : Int, ∃ qTo9 : Int, ∃ qNum9 : Int, ∃ qText9 : ByteArray, ∃ qKids9 : Sl, Row w50 p2 [(.int .i64 qKind9), (.int .i64 qFrom9), (.int .i64 qTo9), (.int .u64 qNum9), (.string qText9), qKids9.v] ∧
                      K qKind9 qFrom9 qTo9 qNum9 qText9 qKids9 w50))))
                (∃ C5 : World → Prop, C5 w5.drew ∧ ∀ w51, w51 = w5.drew →
                ∃ v12 : Int, (∀ w', C5 w' → w'.cell? (p1.add 2) = some (.int .u64 v12)) ∧
                Calls Try.prog 123 #[(.string (⟨#[102, 117, 108, 108]⟩ : ByteArray))] w51 (fun e w52 => ∃ rKind34 : Int, ∃ rFrom34 : Int, ∃ rTo34 : Int, ∃ rNum34 : Int, ∃ rText34 : ByteArray, ∃ rKids34 : Sl, e = .returned (.agg #[(.int .i64 rKind34), (.int .i64 rFrom34), (.int .i64 rTo34), (.int .u64 rNum34), (.string rText34), rKids34.v]) ∧ C5 w52 ∧ 
                  Calls Try.prog 124 #[(.int .u64 v12)] w52 (fun e w53 => ∃ rKind35 : Int, ∃ rFrom35 : Int, ∃ rTo35 : Int, ∃ rNum35 : Int, ∃ rText35 : ByteArray, ∃ rKids35 : Sl, e = .returned (.agg #[(.int .i64 rKind35), (.int .i64 rFrom35), (.int .i64 rTo35), (.int .u64 rNum35), (.string rText35), rKids35.v]) ∧ 
                    Calls Try.prog 122 #[(.agg #[(.int .i64 rKind34), (.int .i64 rFrom34), (.int .i64 rTo34), (.int .u64 rNum34), (.string rText34), rKids34.v]), (.agg #[(.int .i64 rKind35), (.int .i64 rFrom35), (.int .i64 rTo35), (.int .u64 rNum35), (.string rText35), rKids35.v])] w53 (fun e w54 => ∃ rKind36 : Int, ∃ rFrom36 : Int, ∃ rTo36 : Int, ∃ rNum36 : Int, ∃ rText36 : ByteArray, ∃ rKids36 : Sl, e = .returned (.agg #[(.int .i64 rKind36), (.int .i64 rFrom36), (.int .i64 rTo36), (.int .u64 rNum36), (.string rText36), rKids36.v]) ∧ 
                      (∀ j, j < 6 → CanW w54 (p2.add j)) ∧ ∀ w55 : World, w55 = storeRow w54 p2 [(.int .i64 rKind36), (.int .i64 rFrom36), (.int .i64 rTo36), (.int .u64 rNum36), (.string rText36), rKids36.v] →
                      ∃ qKind10 : Int, ∃ qFrom10 : Int, ∃ qTo10 : Int, ∃ qNum10 : Int, ∃ qText10 : ByteArray, ∃ qKids10 : Sl, Row w55 p2 [(.int .i64 qKind10), (.int .i64 qFrom10), (.int .i64 qTo10), (.int .u64 qNum10), (.string qText10), qKids10.v] ∧
                      K qKind10 qFrom10 qTo10 qNum10 qText10 qKids10 w55))))))))))
set_option maxRecDepth 100000 in
set_option maxHeartbeats 4000000 in
theorem w_ref11_Tree (lKind1 : Int) (lFrom1 : Int) (lC1 : Int) (lText1 : ByteArray) (lFake1 : Bool) (first1 : Bool) (second1 : Bool) (w : World) (K : Int → Int → Int → Int → ByteArray → Sl → World → Prop) (h : m_ref11_Tree lKind1 lFrom1 lC1 lText1 lFake1 first1 second1 w K) :
    Calls Try.prog 74 #[(.agg #[(.int .i64 lKind1), (.int .i64 lFrom1), (.int .u64 lC1), (.string lText1), (.bool lFake1)]), (.bool first1), (.bool second1)] w (fun e w' => ∃ rKind37 : Int, ∃ rFrom37 : Int, ∃ rTo37 : Int, ∃ rNum37 : Int, ∃ rText37 : ByteArray, ∃ rKids37 : Sl, e = .returned (.agg #[(.int .i64 rKind37), (.int .i64 rFrom37), (.int .i64 rTo37), (.int .u64 rNum37), (.string rText37), rKids37.v]) ∧ K rKind37 rFrom37 rTo37 rNum37 rText37 rKids37 w') := by
  unfold m_ref11_Tree at h
  refine calls_of_wpE (args := [(.agg #[(.int .i64 lKind1), (.int .i64 lFrom1), (.int .u64 lC1), (.string lText1), (.bool lFake1)]), (.bool first1), (.bool second1)]) Try.func74 rfl Try.ntmps74 (Nat.le_of_ble_eq_true rfl) ?_
  refine wpE_seq ?_
  refine rg ?_
  refine st_new (O := (.cells #[(.int .i64 lKind1), (.int .i64 lFrom1), (.int .u64 lC1), (.string lText1), (.bool lFake1)] 132)) (fun p => .pointer (some p)) (want0 rfl) (x_box (cs := #[(.int .i64 lKind1), (.int .i64 lFrom1), (.int .u64 lC1), (.string lText1), (.bool lFake1)]) (by kernel_rfl)) ?_
  intro p1 w1 hn14
  replace h := h p1 w1 hn14
  refine st_new (O := (.cells #[(.int .i64 0), (.int .i64 0), (.int .i64 0), (.int .u64 0), (.string (⟨#[]⟩ : ByteArray)), Sl.nil.v] 116)) (fun p => .pointer (some p)) (want0 rfl) (x_alloc (Try.zeroValue116 _) rfl) ?_
  intro p2 w2 hn13
  replace h := h p2 w2 hn13
  refine wpL_nil ?_
  refine th_n ?_
  refine wpE_seq ?_
  refine rg ?_
  refine q0 (.pointer (some (p1.add 2))) ?_
  obtain ⟨v1, hv27, h⟩ := h
  refine q2 (.int .u64 v1) (x_load (a := (p1.add 2)) (by kernel_rfl) (Try.isAgg38 _) hv27) ?_
  refine q0 (.pointer (some (p1.add 3))) ?_
  obtain ⟨v2, hv26, h⟩ := h
  refine q2 (.string v2) (x_load (a := (p1.add 3)) (by kernel_rfl) (Try.isAgg9 _) hv26) ?_
  refine st_call (want0 rfl) (x_callE (args := #[(.int .u64 v1), (.string v2)]) Try.call119 (by kernel_rfl)) (h.mono ?_)
  clear h
  rintro e w3 ⟨rKind1, rFrom1, rTo1, rNum1, rText1, rKids1, rfl, h⟩
  refine ⟨_, rfl, ?_⟩
  refine st_new (O := (.cells #[(.int .i64 0), (.int .i64 0), (.int .i64 0), (.int .u64 0), (.string (⟨#[]⟩ : ByteArray)), Sl.nil.v] 116)) (fun p => .pointer (some p)) (want0 rfl) (x_alloc (Try.zeroValue116 _) rfl) ?_
  intro p3 w4 hn12
  replace h := h p3 w4 hn12
  obtain ⟨hp1, h⟩ := h
  refine st_set (want0 rfl) (x_storeA (a := p3) (vs := [(.int .i64 rKind1), (.int .i64 rFrom1), (.int .i64 rTo1), (.int .u64 rNum1), (.string rText1), rKids1.v]) (by kernel_rfl) (by kernel_rfl) rfl (Try.sizeOf116 _) rfl hp1) ?_
  intro w5 hn1
  replace h := h w5 hn1
  refine wpL_nil ?_
  refine th_n ?_
  refine wpE_seq ?_
  refine wpE_seq ?_
  refine rg ?_
  refine q0 (.pointer (some p1)) ?_
  obtain ⟨v3, hv25, h⟩ := h
  refine q2 (.int .i64 v3) (x_load (a := p1) (by kernel_rfl) (Try.isAgg3 _) hv25) ?_
  refine wpL_nil ?_
  refine th_n ?_
  refine wpE_block ?_
  refine wpE_seq ?_
  refine rg ?_
  refine q0 (.bool ((v3 : Int) == 1)) ?_
  refine q0 (.bool ((v3 : Int) == 1)) ?_
  refine wpL_nil ?_
  refine th_n ?_
  refine wpE_cond (t := ((v3 : Int) == 1)) (by kernel_rfl) (fun hc1 => ?_) (fun hc1 => ?_)
  · replace h := h.1 hc1
    refine wpE_seq ?_
    refine rg ?_
    refine q0 (.pointer (some (p1.add 1))) ?_
    obtain ⟨v4, hv4, h⟩ := h
    refine q2 (.int .i64 v4) (x_load (a := (p1.add 1)) (by kernel_rfl) (Try.isAgg3 _) hv4) ?_
    obtain ⟨vKind1, vFrom1, vTo1, vNum1, vText1, vKids1, hv3, h⟩ := h
    refine q2 (.agg #[(.int .i64 vKind1), (.int .i64 vFrom1), (.int .i64 vTo1), (.int .u64 vNum1), (.string vText1), vKids1.v]) (x_loadA (a := p3) (vs := [(.int .i64 vKind1), (.int .i64 vFrom1), (.int .i64 vTo1), (.int .u64 vNum1), (.string vText1), vKids1.v]) (by kernel_rfl) (Try.isAgg116 _) (Try.sizeOf116 _) rfl hv3) ?_
    refine q0 (.pointer (some (p1.add 4))) ?_
    obtain ⟨v5, hv2, h⟩ := h
    refine q2 (.bool v5) (x_load (a := (p1.add 4)) (by kernel_rfl) (Try.isAgg4 _) hv2) ?_
    refine st_call (want0 rfl) (x_callE (args := #[(.int .i64 v4), (.agg #[(.int .i64 vKind1), (.int .i64 vFrom1), (.int .i64 vTo1), (.int .u64 vNum1), (.string vText1), vKids1.v]), (.bool v5)]) Try.call120 (by kernel_rfl)) (h.mono ?_)
    clear h
    rintro e w6 ⟨rKind2, rFrom2, rTo2, rNum2, rText2, rKids2, rfl, h⟩
    refine ⟨_, rfl, ?_⟩
    obtain ⟨hp2, h⟩ := h
    refine st_set (want0 rfl) (x_storeA (a := p2) (vs := [(.int .i64 rKind2), (.int .i64 rFrom2), (.int .i64 rTo2), (.int .u64 rNum2), (.string rText2), rKids2.v]) (by kernel_rfl) (by kernel_rfl) rfl (Try.sizeOf116 _) rfl hp2) ?_
    intro w7 hn2
    replace h := h w7 hn2
    refine wpL_nil ?_
    refine th_n ?_
    refine wpE_ret ?_
    refine bl_r ?_
    refine th_r ?_
    obtain ⟨qKind1, qFrom1, qTo1, qNum1, qText1, qKids1, hv1, h⟩ := h
    refine resG (.inl rfl) (rs := [.cell 6 116]) (vs := [(.agg #[(.int .i64 qKind1), (.int .i64 qFrom1), (.int .i64 qTo1), (.int .u64 qNum1), (.string qText1), qKids1.v])]) (v := (.agg #[(.int .i64 qKind1), (.int .i64 qFrom1), (.int .i64 qTo1), (.int .u64 qNum1), (.string qText1), qKids1.v])) Try.results74 ⟨(RV.cellA (A := p2) (vs := [(.int .i64 qKind1), (.int .i64 qFrom1), (.int .i64 qTo1), (.int .u64 qNum1), (.string qText1), qKids1.v]) (by kernel_rfl) (Try.isAgg116 _) (Try.sizeOf116 _) rfl hv1), trivial⟩ (by kernel_rfl) ?_
    exact ⟨qKind1, qFrom1, qTo1, qNum1, qText1, qKids1, rfl, h⟩
  · replace h := h.2 hc1
    refine wpE_seq ?_
    refine rg ?_
    refine q0 (.bool ((v3 : Int) == 2)) ?_
    refine q0 (.bool ((v3 : Int) == 2)) ?_
    refine wpL_nil ?_
    refine th_n ?_
    refine wpE_cond (t := ((v3 : Int) == 2)) (by kernel_rfl) (fun hc2 => ?_) (fun hc2 => ?_)
    · replace h := h.1 hc2
      refine wpE_seq ?_
      refine rg ?_
      refine q0 (.pointer (some (p1.add 1))) ?_
      obtain ⟨v6, hv7, h⟩ := h
      refine q2 (.int .i64 v6) (x_load (a := (p1.add 1)) (by kernel_rfl) (Try.isAgg3 _) hv7) ?_
      obtain ⟨vKind2, vFrom2, vTo2, vNum2, vText2, vKids2, hv6, h⟩ := h
      refine q2 (.agg #[(.int .i64 vKind2), (.int .i64 vFrom2), (.int .i64 vTo2), (.int .u64 vNum2), (.string vText2), vKids2.v]) (x_loadA (a := p3) (vs := [(.int .i64 vKind2), (.int .i64 vFrom2), (.int .i64 vTo2), (.int .u64 vNum2), (.string vText2), vKids2.v]) (by kernel_rfl) (Try.isAgg116 _) (Try.sizeOf116 _) rfl hv6) ?_
      refine st_call (want0 rfl) (x_callE (args := #[(.int .i64 v6), (.agg #[(.int .i64 vKind2), (.int .i64 vFrom2), (.int .i64 vTo2), (.int .u64 vNum2), (.string vText2), vKids2.v])]) Try.call121 (by kernel_rfl)) (h.mono ?_)
      clear h
      rintro e w8 ⟨rKind3, rFrom3, rTo3, rNum3, rText3, rKids3, rfl, h⟩
      refine ⟨_, rfl, ?_⟩
      obtain ⟨hp3, h⟩ := h
      refine st_set (want0 rfl) (x_storeA (a := p2) (vs := [(.int .i64 rKind3), (.int .i64 rFrom3), (.int .i64 rTo3), (.int .u64 rNum3), (.string rText3), rKids3.v]) (by kernel_rfl) (by kernel_rfl) rfl (Try.sizeOf116 _) rfl hp3) ?_
      intro w9 hn3
      replace h := h w9 hn3
      refine wpL_nil ?_
      refine th_n ?_
      refine wpE_ret ?_
      refine bl_r ?_
      refine th_r ?_
      obtain ⟨qKind2, qFrom2, qTo2, qNum2, qText2, qKids2, hv5, h⟩ := h
      refine resG (.inl rfl) (rs := [.cell 6 116]) (vs := [(.agg #[(.int .i64 qKind2), (.int .i64 qFrom2), (.int .i64 qTo2), (.int .u64 qNum2), (.string qText2), qKids2.v])]) (v := (.agg #[(.int .i64 qKind2), (.int .i64 qFrom2), (.int .i64 qTo2), (.int .u64 qNum2), (.string qText2), qKids2.v])) Try.results74 ⟨(RV.cellA (A := p2) (vs := [(.int .i64 qKind2), (.int .i64 qFrom2), (.int .i64 qTo2), (.int .u64 qNum2), (.string qText2), qKids2.v]) (by kernel_rfl) (Try.isAgg116 _) (Try.sizeOf116 _) rfl hv5), trivial⟩ (by kernel_rfl) ?_
      exact ⟨qKind2, qFrom2, qTo2, qNum2, qText2, qKids2, rfl, h⟩
    · replace h := h.2 hc2
      refine wpE_seq ?_
      refine rg ?_
      refine q0 (.bool ((v3 : Int) == 3)) ?_
      refine q0 (.bool ((v3 : Int) == 3)) ?_
      refine wpL_nil ?_
      refine th_n ?_
      refine wpE_cond (t := ((v3 : Int) == 3)) (by kernel_rfl) (fun hc3 => ?_) (fun hc3 => ?_)
      · replace h := h.1 hc3
        refine wpE_seq ?_
        obtain ⟨C1, hC, h⟩ := h
        refine wpE_drawnC C1 [0, 3, 4, 5, 6] [3, 4, 5, 6] (by kernel_rfl) (by kernel_rfl) (by kernel_rfl) (by kernel_rfl) hC ?_
        clear hC
        intro w10 hw10
        replace h := h w10 hw10
        refine qx 1 (.pointer (some (p1.add 2))) Kp1 ?_
        refine qgo (k := 2) (by kernel_rfl) ?_
        obtain ⟨v7, hv9, h⟩ := h
        refine sx (v := (.int .u64 v7)) Kp2 (want0 rfl) (by kernel_rfl) (fun w' hw' => (x_load (a := (p1.add 2)) (by kernel_rfl) (Try.isAgg38 _) (hv9 w' hw'))) ?_
        refine lgo (k := 0) (by kernel_rfl) ?_
        refine sl_call Kp0 (want0 rfl) (by kernel_rfl) (x_callE (args := #[(.string (⟨#[97, 98, 111, 114, 116]⟩ : ByteArray))]) Try.call123 (by kernel_rfl)) (h.mono ?_)
        clear h
        rintro e w11 ⟨rKind4, rFrom4, rTo4, rNum4, rText4, rKids4, rfl, hC, h⟩
        refine ⟨_, rfl, .inr hC, ?_⟩
        refine lgo (k := 3) (by kernel_rfl) ?_
        refine sl_call Kp3 (want0 rfl) (by kernel_rfl) (x_callE (args := #[(.int .u64 v7)]) Try.call124 (by kernel_rfl)) (h.mono ?_)
        clear h
        rintro e w12 ⟨rKind5, rFrom5, rTo5, rNum5, rText5, rKids5, rfl, h⟩
        refine ⟨_, rfl, .inl (by kernel_rfl), ?_⟩
        refine lgo (k := 4) (by kernel_rfl) ?_
        refine sl_call Kp4 (want0 rfl) (by kernel_rfl) (x_callE (args := #[(.agg #[(.int .i64 rKind4), (.int .i64 rFrom4), (.int .i64 rTo4), (.int .u64 rNum4), (.string rText4), rKids4.v]), (.agg #[(.int .i64 rKind5), (.int .i64 rFrom5), (.int .i64 rTo5), (.int .u64 rNum5), (.string rText5), rKids5.v])]) Try.call122 (by kernel_rfl)) (h.mono ?_)
        clear h
        rintro e w13 ⟨rKind6, rFrom6, rTo6, rNum6, rText6, rKids6, rfl, h⟩
        refine ⟨_, rfl, .inl (by kernel_rfl), ?_⟩
        refine lgo (k := 5) (by kernel_rfl) ?_
        refine sl_call Kp5 (want0 rfl) (by kernel_rfl) (x_callE (args := #[(.int .i64 0), (.agg #[(.int .i64 rKind6), (.int .i64 rFrom6), (.int .i64 rTo6), (.int .u64 rNum6), (.string rText6), rKids6.v])]) Try.call121 (by kernel_rfl)) (h.mono ?_)
        clear h
        rintro e w14 ⟨rKind7, rFrom7, rTo7, rNum7, rText7, rKids7, rfl, h⟩
        refine ⟨_, rfl, .inl (by kernel_rfl), ?_⟩
        refine lgo (k := 6) (by kernel_rfl) ?_
        obtain ⟨hp4, h⟩ := h
        refine sl_set Kp6 (want0 rfl) (by kernel_rfl) (x_storeA (a := p2) (vs := [(.int .i64 rKind7), (.int .i64 rFrom7), (.int .i64 rTo7), (.int .u64 rNum7), (.string rText7), rKids7.v]) (by kernel_rfl) (by kernel_rfl) rfl (Try.sizeOf116 _) rfl hp4) ?_
        intro w15 hn4
        replace h := h w15 hn4
        refine ⟨.inl (by kernel_rfl), ?_⟩
        refine wpX_nil (by kernel_rfl) ?_
        refine th_n ?_
        refine wpE_ret ?_
        refine bl_r ?_
        refine th_r ?_
        obtain ⟨qKind3, qFrom3, qTo3, qNum3, qText3, qKids3, hv8, h⟩ := h
        refine resG (.inl rfl) (rs := [.cell 6 116]) (vs := [(.agg #[(.int .i64 qKind3), (.int .i64 qFrom3), (.int .i64 qTo3), (.int .u64 qNum3), (.string qText3), qKids3.v])]) (v := (.agg #[(.int .i64 qKind3), (.int .i64 qFrom3), (.int .i64 qTo3), (.int .u64 qNum3), (.string qText3), qKids3.v])) Try.results74 ⟨(RV.cellA (A := p2) (vs := [(.int .i64 qKind3), (.int .i64 qFrom3), (.int .i64 qTo3), (.int .u64 qNum3), (.string qText3), qKids3.v]) (by kernel_rfl) (Try.isAgg116 _) (Try.sizeOf116 _) rfl hv8), trivial⟩ (by kernel_rfl) ?_
        exact ⟨qKind3, qFrom3, qTo3, qNum3, qText3, qKids3, rfl, h⟩
      · replace h := h.2 hc3
        refine wpE_seq ?_
        refine rg ?_
        refine q0 (.bool ((v3 : Int) == 4)) ?_
        refine q0 (.bool ((v3 : Int) == 4)) ?_
        refine wpL_nil ?_
        refine th_n ?_
        refine wpE_cond (t := ((v3 : Int) == 4)) (by kernel_rfl) (fun hc4 => ?_) (fun hc4 => ?_)
        · replace h := h.1 hc4
          refine wpE_seq ?_
          obtain ⟨C2, hC, h⟩ := h
          refine wpE_drawnC C2 [2, 9, 16, 17, 18, 19, 20] [19, 20] (by kernel_rfl) (by kernel_rfl) (by kernel_rfl) (by kernel_rfl) hC ?_
          clear hC
          intro w16 hw16
          replace h := h w16 hw16
          refine qx 0 (.pointer (some (p1.add 1))) Kp0 ?_
          refine qgo (k := 1) (by kernel_rfl) ?_
          obtain ⟨v8, hv18, h⟩ := h
          refine sx (v := (.int .i64 v8)) Kp1 (want0 rfl) (by kernel_rfl) (fun w' hw' => (x_load (a := (p1.add 1)) (by kernel_rfl) (Try.isAgg3 _) (hv18 w' hw'))) ?_
          refine qgo (k := 3) (by kernel_rfl) ?_
          obtain ⟨vKind3, vFrom3, vTo3, vNum3, vText3, vKids3, hv17, h⟩ := h
          refine sx (v := (.agg #[(.int .i64 vKind3), (.int .i64 vFrom3), (.int .i64 vTo3), (.int .u64 vNum3), (.string vText3), vKids3.v])) Kp3 (want0 rfl) (by kernel_rfl) (fun w' hw' => (x_loadA (a := p3) (vs := [(.int .i64 vKind3), (.int .i64 vFrom3), (.int .i64 vTo3), (.int .u64 vNum3), (.string vText3), vKids3.v]) (by kernel_rfl) (Try.isAgg116 _) (Try.sizeOf116 _) rfl (hv17 w' hw'))) ?_
          refine qx 4 (.pointer (some (p1.add 4))) Kp4 ?_
          refine qgo (k := 5) (by kernel_rfl) ?_
          obtain ⟨v9, hv16, h⟩ := h
          refine sx (v := (.bool v9)) Kp5 (want0 rfl) (by kernel_rfl) (fun w' hw' => (x_load (a := (p1.add 4)) (by kernel_rfl) (Try.isAgg4 _) (hv16 w' hw'))) ?_
          refine qgo (k := 10) (by kernel_rfl) ?_
          obtain ⟨vKind4, vFrom4, vTo4, vNum4, vText4, vKids4, hv15, h⟩ := h
          refine sx (v := (.agg #[(.int .i64 vKind4), (.int .i64 vFrom4), (.int .i64 vTo4), (.int .u64 vNum4), (.string vText4), vKids4.v])) (pickA (pickS (pickS (pickS (pickS (pickS (pickS (pickS (pickS (pickS (pickS pickZ))))))))))) (want0 rfl) (by kernel_rfl) (fun w' hw' => (x_loadA (a := p3) (vs := [(.int .i64 vKind4), (.int .i64 vFrom4), (.int .i64 vTo4), (.int .u64 vNum4), (.string vText4), vKids4.v]) (by kernel_rfl) (Try.isAgg116 _) (Try.sizeOf116 _) rfl (hv15 w' hw'))) ?_
          refine qx 11 (.pointer (some (p1.add 4))) (pickA (pickS (pickS (pickS (pickS (pickS (pickS (pickS (pickS (pickS (pickS (pickS pickZ)))))))))))) ?_
          refine qgo (k := 12) (by kernel_rfl) ?_
          obtain ⟨v10, hv14, h⟩ := h
          refine sx (v := (.bool v10)) (pickA (pickS (pickS (pickS (pickS (pickS (pickS (pickS (pickS (pickS (pickS (pickS (pickS pickZ))))))))))))) (want0 rfl) (by kernel_rfl) (fun w' hw' => (x_load (a := (p1.add 4)) (by kernel_rfl) (Try.isAgg4 _) (hv14 w' hw'))) ?_
          refine lgo (k := 2) (by kernel_rfl) ?_
          refine sl_call Kp2 (want0 rfl) (by kernel_rfl) (x_callE (args := #[(.string (⟨#[114, 101, 115, 111, 108, 118, 101]⟩ : ByteArray))]) Try.call123 (by kernel_rfl)) (h.mono ?_)
          clear h
          rintro e w17 ⟨rKind8, rFrom8, rTo8, rNum8, rText8, rKids8, rfl, hC, h⟩
          refine ⟨_, rfl, .inr hC, ?_⟩
          refine qx 6 (.bool v9) Kp6 ?_
          refine qgo (k := 7) (by kernel_rfl) ?_
          rcases Bool.eq_false_or_eq_true v9 with hg1 | hg1
          · replace h := h.1 hg1
            refine sx (v := (.bool first1)) Kp7 (want1 rfl (yD 45 hg1)) (by kernel_rfl) (fun w' hw' => (by kernel_rfl)) ?_
            refine qz 8 (.bool first1) Kp8 (fun w' hw' => (x_pickT (b := v9) (by kernel_rfl) hg1 (by kernel_rfl))) ?_
            refine lgo (k := 9) (by kernel_rfl) ?_
            refine sl_call Kp9 (want0 rfl) (by kernel_rfl) (x_callE (args := #[(.int .i64 0), (.agg #[(.int .i64 vKind3), (.int .i64 vFrom3), (.int .i64 vTo3), (.int .u64 vNum3), (.string vText3), vKids3.v]), (.bool first1)]) Try.call120 (by kernel_rfl)) (h.mono ?_)
            clear h
            rintro e w18 ⟨rKind9, rFrom9, rTo9, rNum9, rText9, rKids9, rfl, hC, h⟩
            refine ⟨_, rfl, .inr hC, ?_⟩
            refine qx 13 (.bool v10) (pickA (pickS (pickS (pickS (pickS (pickS (pickS (pickS (pickS (pickS (pickS (pickS (pickS (pickS pickZ)))))))))))))) ?_
            refine qgo (k := 14) (by kernel_rfl) ?_
            rcases Bool.eq_false_or_eq_true v10 with hg2 | hg2
            · replace h := h.1 hg2
              refine sx (v := (.bool second1)) (pickA (pickS (pickS (pickS (pickS (pickS (pickS (pickS (pickS (pickS (pickS (pickS (pickS (pickS (pickS pickZ))))))))))))))) (want1 rfl (yD 52 hg2)) (by kernel_rfl) (fun w' hw' => (by kernel_rfl)) ?_
              refine qz 15 (.bool second1) (pickA (pickS (pickS (pickS (pickS (pickS (pickS (pickS (pickS (pickS (pickS (pickS (pickS (pickS (pickS (pickS pickZ)))))))))))))))) (fun w' hw' => (x_pickT (b := v10) (by kernel_rfl) hg2 (by kernel_rfl))) ?_
              refine lgo (k := 16) (by kernel_rfl) ?_
              refine sl_call (pickA (pickS (pickS (pickS (pickS (pickS (pickS (pickS (pickS (pickS (pickS (pickS (pickS (pickS (pickS (pickS (pickS pickZ))))))))))))))))) (want0 rfl) (by kernel_rfl) (x_callE (args := #[(.int .i64 1), (.agg #[(.int .i64 vKind4), (.int .i64 vFrom4), (.int .i64 vTo4), (.int .u64 vNum4), (.string vText4), vKids4.v]), (.bool second1)]) Try.call120 (by kernel_rfl)) (h.mono ?_)
              clear h
              rintro e w19 ⟨rKind10, rFrom10, rTo10, rNum10, rText10, rKids10, rfl, hC, h⟩
              refine ⟨_, rfl, .inr hC, ?_⟩
              refine lgo (k := 17) (by kernel_rfl) ?_
              refine sl_call (pickA (pickS (pickS (pickS (pickS (pickS (pickS (pickS (pickS (pickS (pickS (pickS (pickS (pickS (pickS (pickS (pickS (pickS pickZ)))))))))))))))))) (want0 rfl) (by kernel_rfl) (x_callE (args := #[(.agg #[(.int .i64 rKind9), (.int .i64 rFrom9), (.int .i64 rTo9), (.int .u64 rNum9), (.string rText9), rKids9.v]), (.agg #[(.int .i64 rKind10), (.int .i64 rFrom10), (.int .i64 rTo10), (.int .u64 rNum10), (.string rText10), rKids10.v])]) Try.call122 (by kernel_rfl)) (h.mono ?_)
              clear h
              rintro e w20 ⟨rKind11, rFrom11, rTo11, rNum11, rText11, rKids11, rfl, hC, h⟩
              refine ⟨_, rfl, .inr hC, ?_⟩
              refine lgo (k := 18) (by kernel_rfl) ?_
              refine sl_call (pickA (pickS (pickS (pickS (pickS (pickS (pickS (pickS (pickS (pickS (pickS (pickS (pickS (pickS (pickS (pickS (pickS (pickS (pickS pickZ))))))))))))))))))) (want0 rfl) (by kernel_rfl) (x_callE (args := #[(.agg #[(.int .i64 rKind8), (.int .i64 rFrom8), (.int .i64 rTo8), (.int .u64 rNum8), (.string rText8), rKids8.v]), (.agg #[(.int .i64 rKind11), (.int .i64 rFrom11), (.int .i64 rTo11), (.int .u64 rNum11), (.string rText11), rKids11.v])]) Try.call122 (by kernel_rfl)) (h.mono ?_)
              clear h
              rintro e w21 ⟨rKind12, rFrom12, rTo12, rNum12, rText12, rKids12, rfl, hC, h⟩
              refine ⟨_, rfl, .inr hC, ?_⟩
              refine lgo (k := 19) (by kernel_rfl) ?_
              refine sl_call (pickA (pickS (pickS (pickS (pickS (pickS (pickS (pickS (pickS (pickS (pickS (pickS (pickS (pickS (pickS (pickS (pickS (pickS (pickS (pickS pickZ)))))))))))))))))))) (want0 rfl) (by kernel_rfl) (x_callE (args := #[(.int .i64 v8), (.agg #[(.int .i64 rKind12), (.int .i64 rFrom12), (.int .i64 rTo12), (.int .u64 rNum12), (.string rText12), rKids12.v])]) Try.call121 (by kernel_rfl)) (h.mono ?_)
              clear h
              rintro e w22 ⟨rKind13, rFrom13, rTo13, rNum13, rText13, rKids13, rfl, h⟩
              refine ⟨_, rfl, .inl (by kernel_rfl), ?_⟩
              refine lgo (k := 20) (by kernel_rfl) ?_
              obtain ⟨hp5, h⟩ := h
              refine sl_set (pickA (pickS (pickS (pickS (pickS (pickS (pickS (pickS (pickS (pickS (pickS (pickS (pickS (pickS (pickS (pickS (pickS (pickS (pickS (pickS (pickS pickZ))))))))))))))))))))) (want0 rfl) (by kernel_rfl) (x_storeA (a := p2) (vs := [(.int .i64 rKind13), (.int .i64 rFrom13), (.int .i64 rTo13), (.int .u64 rNum13), (.string rText13), rKids13.v]) (by kernel_rfl) (by kernel_rfl) rfl (Try.sizeOf116 _) rfl hp5) ?_
              intro w23 hn5
              replace h := h w23 hn5
              refine ⟨.inl (by kernel_rfl), ?_⟩
              refine wpX_nil (by kernel_rfl) ?_
              refine th_n ?_
              refine wpE_ret ?_
              refine bl_r ?_
              refine th_r ?_
              obtain ⟨qKind4, qFrom4, qTo4, qNum4, qText4, qKids4, hv10, h⟩ := h
              refine resG (.inl rfl) (rs := [.cell 6 116]) (vs := [(.agg #[(.int .i64 qKind4), (.int .i64 qFrom4), (.int .i64 qTo4), (.int .u64 qNum4), (.string qText4), qKids4.v])]) (v := (.agg #[(.int .i64 qKind4), (.int .i64 qFrom4), (.int .i64 qTo4), (.int .u64 qNum4), (.string qText4), qKids4.v])) Try.results74 ⟨(RV.cellA (A := p2) (vs := [(.int .i64 qKind4), (.int .i64 qFrom4), (.int .i64 qTo4), (.int .u64 qNum4), (.string qText4), qKids4.v]) (by kernel_rfl) (Try.isAgg116 _) (Try.sizeOf116 _) rfl hv10), trivial⟩ (by kernel_rfl) ?_
              exact ⟨qKind4, qFrom4, qTo4, qNum4, qText4, qKids4, rfl, h⟩
            · replace h := h.2 hg2
              refine sx_not (pickA (pickS (pickS (pickS (pickS (pickS (pickS (pickS (pickS (pickS (pickS (pickS (pickS (pickS (pickS pickZ))))))))))))))) (unwant rfl (yD 52 hg2) rfl) ?_
              refine qz 15 (.bool false) (pickA (pickS (pickS (pickS (pickS (pickS (pickS (pickS (pickS (pickS (pickS (pickS (pickS (pickS (pickS (pickS pickZ)))))))))))))))) (fun w' hw' => (x_pickF (b := v10) (by kernel_rfl) hg2 (by kernel_rfl))) ?_
              refine lgo (k := 16) (by kernel_rfl) ?_
              refine sl_call (pickA (pickS (pickS (pickS (pickS (pickS (pickS (pickS (pickS (pickS (pickS (pickS (pickS (pickS (pickS (pickS (pickS pickZ))))))))))))))))) (want0 rfl) (by kernel_rfl) (x_callE (args := #[(.int .i64 1), (.agg #[(.int .i64 vKind4), (.int .i64 vFrom4), (.int .i64 vTo4), (.int .u64 vNum4), (.string vText4), vKids4.v]), (.bool false)]) Try.call120 (by kernel_rfl)) (h.mono ?_)
              clear h
              rintro e w24 ⟨rKind14, rFrom14, rTo14, rNum14, rText14, rKids14, rfl, hC, h⟩
              refine ⟨_, rfl, .inr hC, ?_⟩
              refine lgo (k := 17) (by kernel_rfl) ?_
              refine sl_call (pickA (pickS (pickS (pickS (pickS (pickS (pickS (pickS (pickS (pickS (pickS (pickS (pickS (pickS (pickS (pickS (pickS (pickS pickZ)))))))))))))))))) (want0 rfl) (by kernel_rfl) (x_callE (args := #[(.agg #[(.int .i64 rKind9), (.int .i64 rFrom9), (.int .i64 rTo9), (.int .u64 rNum9), (.string rText9), rKids9.v]), (.agg #[(.int .i64 rKind14), (.int .i64 rFrom14), (.int .i64 rTo14), (.int .u64 rNum14), (.string rText14), rKids14.v])]) Try.call122 (by kernel_rfl)) (h.mono ?_)
              clear h
              rintro e w25 ⟨rKind15, rFrom15, rTo15, rNum15, rText15, rKids15, rfl, hC, h⟩
              refine ⟨_, rfl, .inr hC, ?_⟩
              refine lgo (k := 18) (by kernel_rfl) ?_
              refine sl_call (pickA (pickS (pickS (pickS (pickS (pickS (pickS (pickS (pickS (pickS (pickS (pickS (pickS (pickS (pickS (pickS (pickS (pickS (pickS pickZ))))))))))))))))))) (want0 rfl) (by kernel_rfl) (x_callE (args := #[(.agg #[(.int .i64 rKind8), (.int .i64 rFrom8), (.int .i64 rTo8), (.int .u64 rNum8), (.string rText8), rKids8.v]), (.agg #[(.int .i64 rKind15), (.int .i64 rFrom15), (.int .i64 rTo15), (.int .u64 rNum15), (.string rText15), rKids15.v])]) Try.call122 (by kernel_rfl)) (h.mono ?_)
              clear h
              rintro e w26 ⟨rKind16, rFrom16, rTo16, rNum16, rText16, rKids16, rfl, hC, h⟩
              refine ⟨_, rfl, .inr hC, ?_⟩
              refine lgo (k := 19) (by kernel_rfl) ?_
              refine sl_call (pickA (pickS (pickS (pickS (pickS (pickS (pickS (pickS (pickS (pickS (pickS (pickS (pickS (pickS (pickS (pickS (pickS (pickS (pickS (pickS pickZ)))))))))))))))))))) (want0 rfl) (by kernel_rfl) (x_callE (args := #[(.int .i64 v8), (.agg #[(.int .i64 rKind16), (.int .i64 rFrom16), (.int .i64 rTo16), (.int .u64 rNum16), (.string rText16), rKids16.v])]) Try.call121 (by kernel_rfl)) (h.mono ?_)
              clear h
              rintro e w27 ⟨rKind17, rFrom17, rTo17, rNum17, rText17, rKids17, rfl, h⟩
              refine ⟨_, rfl, .inl (by kernel_rfl), ?_⟩
              refine lgo (k := 20) (by kernel_rfl) ?_
              obtain ⟨hp6, h⟩ := h
              refine sl_set (pickA (pickS (pickS (pickS (pickS (pickS (pickS (pickS (pickS (pickS (pickS (pickS (pickS (pickS (pickS (pickS (pickS (pickS (pickS (pickS (pickS pickZ))))))))))))))))))))) (want0 rfl) (by kernel_rfl) (x_storeA (a := p2) (vs := [(.int .i64 rKind17), (.int .i64 rFrom17), (.int .i64 rTo17), (.int .u64 rNum17), (.string rText17), rKids17.v]) (by kernel_rfl) (by kernel_rfl) rfl (Try.sizeOf116 _) rfl hp6) ?_
              intro w28 hn6
              replace h := h w28 hn6
              refine ⟨.inl (by kernel_rfl), ?_⟩
              refine wpX_nil (by kernel_rfl) ?_
              refine th_n ?_
              refine wpE_ret ?_
              refine bl_r ?_
              refine th_r ?_
              obtain ⟨qKind5, qFrom5, qTo5, qNum5, qText5, qKids5, hv11, h⟩ := h
              refine resG (.inl rfl) (rs := [.cell 6 116]) (vs := [(.agg #[(.int .i64 qKind5), (.int .i64 qFrom5), (.int .i64 qTo5), (.int .u64 qNum5), (.string qText5), qKids5.v])]) (v := (.agg #[(.int .i64 qKind5), (.int .i64 qFrom5), (.int .i64 qTo5), (.int .u64 qNum5), (.string qText5), qKids5.v])) Try.results74 ⟨(RV.cellA (A := p2) (vs := [(.int .i64 qKind5), (.int .i64 qFrom5), (.int .i64 qTo5), (.int .u64 qNum5), (.string qText5), qKids5.v]) (by kernel_rfl) (Try.isAgg116 _) (Try.sizeOf116 _) rfl hv11), trivial⟩ (by kernel_rfl) ?_
              exact ⟨qKind5, qFrom5, qTo5, qNum5, qText5, qKids5, rfl, h⟩
          · replace h := h.2 hg1
            refine sx_not Kp7 (unwant rfl (yD 45 hg1) rfl) ?_
            refine qz 8 (.bool false) Kp8 (fun w' hw' => (x_pickF (b := v9) (by kernel_rfl) hg1 (by kernel_rfl))) ?_
            refine lgo (k := 9) (by kernel_rfl) ?_
            refine sl_call Kp9 (want0 rfl) (by kernel_rfl) (x_callE (args := #[(.int .i64 0), (.agg #[(.int .i64 vKind3), (.int .i64 vFrom3), (.int .i64 vTo3), (.int .u64 vNum3), (.string vText3), vKids3.v]), (.bool false)]) Try.call120 (by kernel_rfl)) (h.mono ?_)
            clear h
            rintro e w29 ⟨rKind18, rFrom18, rTo18, rNum18, rText18, rKids18, rfl, hC, h⟩
            refine ⟨_, rfl, .inr hC, ?_⟩
            refine qx 13 (.bool v10) (pickA (pickS (pickS (pickS (pickS (pickS (pickS (pickS (pickS (pickS (pickS (pickS (pickS (pickS pickZ)))))))))))))) ?_
            refine qgo (k := 14) (by kernel_rfl) ?_
            rcases Bool.eq_false_or_eq_true v10 with hg3 | hg3
            · replace h := h.1 hg3
              refine sx (v := (.bool second1)) (pickA (pickS (pickS (pickS (pickS (pickS (pickS (pickS (pickS (pickS (pickS (pickS (pickS (pickS (pickS pickZ))))))))))))))) (want1 rfl (yD 52 hg3)) (by kernel_rfl) (fun w' hw' => (by kernel_rfl)) ?_
              refine qz 15 (.bool second1) (pickA (pickS (pickS (pickS (pickS (pickS (pickS (pickS (pickS (pickS (pickS (pickS (pickS (pickS (pickS (pickS pickZ)))))))))))))))) (fun w' hw' => (x_pickT (b := v10) (by kernel_rfl) hg3 (by kernel_rfl))) ?_
              refine lgo (k := 16) (by kernel_rfl) ?_
              refine sl_call (pickA (pickS (pickS (pickS (pickS (pickS (pickS (pickS (pickS (pickS (pickS (pickS (pickS (pickS (pickS (pickS (pickS pickZ))))))))))))))))) (want0 rfl) (by kernel_rfl) (x_callE (args := #[(.int .i64 1), (.agg #[(.int .i64 vKind4), (.int .i64 vFrom4), (.int .i64 vTo4), (.int .u64 vNum4), (.string vText4), vKids4.v]), (.bool second1)]) Try.call120 (by kernel_rfl)) (h.mono ?_)
              clear h
              rintro e w30 ⟨rKind19, rFrom19, rTo19, rNum19, rText19, rKids19, rfl, hC, h⟩
              refine ⟨_, rfl, .inr hC, ?_⟩
              refine lgo (k := 17) (by kernel_rfl) ?_
              refine sl_call (pickA (pickS (pickS (pickS (pickS (pickS (pickS (pickS (pickS (pickS (pickS (pickS (pickS (pickS (pickS (pickS (pickS (pickS pickZ)))))))))))))))))) (want0 rfl) (by kernel_rfl) (x_callE (args := #[(.agg #[(.int .i64 rKind18), (.int .i64 rFrom18), (.int .i64 rTo18), (.int .u64 rNum18), (.string rText18), rKids18.v]), (.agg #[(.int .i64 rKind19), (.int .i64 rFrom19), (.int .i64 rTo19), (.int .u64 rNum19), (.string rText19), rKids19.v])]) Try.call122 (by kernel_rfl)) (h.mono ?_)
              clear h
              rintro e w31 ⟨rKind20, rFrom20, rTo20, rNum20, rText20, rKids20, rfl, hC, h⟩
              refine ⟨_, rfl, .inr hC, ?_⟩
              refine lgo (k := 18) (by kernel_rfl) ?_
              refine sl_call (pickA (pickS (pickS (pickS (pickS (pickS (pickS (pickS (pickS (pickS (pickS (pickS (pickS (pickS (pickS (pickS (pickS (pickS (pickS pickZ))))))))))))))))))) (want0 rfl) (by kernel_rfl) (x_callE (args := #[(.agg #[(.int .i64 rKind8), (.int .i64 rFrom8), (.int .i64 rTo8), (.int .u64 rNum8), (.string rText8), rKids8.v]), (.agg #[(.int .i64 rKind20), (.int .i64 rFrom20), (.int .i64 rTo20), (.int .u64 rNum20), (.string rText20), rKids20.v])]) Try.call122 (by kernel_rfl)) (h.mono ?_)
              clear h
              rintro e w32 ⟨rKind21, rFrom21, rTo21, rNum21, rText21, rKids21, rfl, hC, h⟩
              refine ⟨_, rfl, .inr hC, ?_⟩
              refine lgo (k := 19) (by kernel_rfl) ?_
              refine sl_call (pickA (pickS (pickS (pickS (pickS (pickS (pickS (pickS (pickS (pickS (pickS (pickS (pickS (pickS (pickS (pickS (pickS (pickS (pickS (pickS pickZ)))))))))))))))))))) (want0 rfl) (by kernel_rfl) (x_callE (args := #[(.int .i64 v8), (.agg #[(.int .i64 rKind21), (.int .i64 rFrom21), (.int .i64 rTo21), (.int .u64 rNum21), (.string rText21), rKids21.v])]) Try.call121 (by kernel_rfl)) (h.mono ?_)
              clear h
              rintro e w33 ⟨rKind22, rFrom22, rTo22, rNum22, rText22, rKids22, rfl, h⟩
              refine ⟨_, rfl, .inl (by kernel_rfl), ?_⟩
              refine lgo (k := 20) (by kernel_rfl) ?_
              obtain ⟨hp7, h⟩ := h
              refine sl_set (pickA (pickS (pickS (pickS (pickS (pickS (pickS (pickS (pickS (pickS (pickS (pickS (pickS (pickS (pickS (pickS (pickS (pickS (pickS (pickS (pickS pickZ))))))))))))))))))))) (want0 rfl) (by kernel_rfl) (x_storeA (a := p2) (vs := [(.int .i64 rKind22), (.int .i64 rFrom22), (.int .i64 rTo22), (.int .u64 rNum22), (.string rText22), rKids22.v]) (by kernel_rfl) (by kernel_rfl) rfl (Try.sizeOf116 _) rfl hp7) ?_
              intro w34 hn7
              replace h := h w34 hn7
              refine ⟨.inl (by kernel_rfl), ?_⟩
              refine wpX_nil (by kernel_rfl) ?_
              refine th_n ?_
              refine wpE_ret ?_
              refine bl_r ?_
              refine th_r ?_
              obtain ⟨qKind6, qFrom6, qTo6, qNum6, qText6, qKids6, hv12, h⟩ := h
              refine resG (.inl rfl) (rs := [.cell 6 116]) (vs := [(.agg #[(.int .i64 qKind6), (.int .i64 qFrom6), (.int .i64 qTo6), (.int .u64 qNum6), (.string qText6), qKids6.v])]) (v := (.agg #[(.int .i64 qKind6), (.int .i64 qFrom6), (.int .i64 qTo6), (.int .u64 qNum6), (.string qText6), qKids6.v])) Try.results74 ⟨(RV.cellA (A := p2) (vs := [(.int .i64 qKind6), (.int .i64 qFrom6), (.int .i64 qTo6), (.int .u64 qNum6), (.string qText6), qKids6.v]) (by kernel_rfl) (Try.isAgg116 _) (Try.sizeOf116 _) rfl hv12), trivial⟩ (by kernel_rfl) ?_
              exact ⟨qKind6, qFrom6, qTo6, qNum6, qText6, qKids6, rfl, h⟩
            · replace h := h.2 hg3
              refine sx_not (pickA (pickS (pickS (pickS (pickS (pickS (pickS (pickS (pickS (pickS (pickS (pickS (pickS (pickS (pickS pickZ))))))))))))))) (unwant rfl (yD 52 hg3) rfl) ?_
              refine qz 15 (.bool false) (pickA (pickS (pickS (pickS (pickS (pickS (pickS (pickS (pickS (pickS (pickS (pickS (pickS (pickS (pickS (pickS pickZ)))))))))))))))) (fun w' hw' => (x_pickF (b := v10) (by kernel_rfl) hg3 (by kernel_rfl))) ?_
              refine lgo (k := 16) (by kernel_rfl) ?_
              refine sl_call (pickA (pickS (pickS (pickS (pickS (pickS (pickS (pickS (pickS (pickS (pickS (pickS (pickS (pickS (pickS (pickS (pickS pickZ))))))))))))))))) (want0 rfl) (by kernel_rfl) (x_callE (args := #[(.int .i64 1), (.agg #[(.int .i64 vKind4), (.int .i64 vFrom4), (.int .i64 vTo4), (.int .u64 vNum4), (.string vText4), vKids4.v]), (.bool false)]) Try.call120 (by kernel_rfl)) (h.mono ?_)
              clear h
              rintro e w35 ⟨rKind23, rFrom23, rTo23, rNum23, rText23, rKids23, rfl, hC, h⟩
              refine ⟨_, rfl, .inr hC, ?_⟩
              refine lgo (k := 17) (by kernel_rfl) ?_
              refine sl_call (pickA (pickS (pickS (pickS (pickS (pickS (pickS (pickS (pickS (pickS (pickS (pickS (pickS (pickS (pickS (pickS (pickS (pickS pickZ)))))))))))))))))) (want0 rfl) (by kernel_rfl) (x_callE (args := #[(.agg #[(.int .i64 rKind18), (.int .i64 rFrom18), (.int .i64 rTo18), (.int .u64 rNum18), (.string rText18), rKids18.v]), (.agg #[(.int .i64 rKind23), (.int .i64 rFrom23), (.int .i64 rTo23), (.int .u64 rNum23), (.string rText23), rKids23.v])]) Try.call122 (by kernel_rfl)) (h.mono ?_)
              clear h
              rintro e w36 ⟨rKind24, rFrom24, rTo24, rNum24, rText24, rKids24, rfl, hC, h⟩
              refine ⟨_, rfl, .inr hC, ?_⟩
              refine lgo (k := 18) (by kernel_rfl) ?_
              refine sl_call (pickA (pickS (pickS (pickS (pickS (pickS (pickS (pickS (pickS (pickS (pickS (pickS (pickS (pickS (pickS (pickS (pickS (pickS (pickS pickZ))))))))))))))))))) (want0 rfl) (by kernel_rfl) (x_callE (args := #[(.agg #[(.int .i64 rKind8), (.int .i64 rFrom8), (.int .i64 rTo8), (.int .u64 rNum8), (.string rText8), rKids8.v]), (.agg #[(.int .i64 rKind24), (.int .i64 rFrom24), (.int .i64 rTo24), (.int .u64 rNum24), (.string rText24), rKids24.v])]) Try.call122 (by kernel_rfl)) (h.mono ?_)
              clear h
              rintro e w37 ⟨rKind25, rFrom25, rTo25, rNum25, rText25, rKids25, rfl, hC, h⟩
              refine ⟨_, rfl, .inr hC, ?_⟩
              refine lgo (k := 19) (by kernel_rfl) ?_
              refine sl_call (pickA (pickS (pickS (pickS (pickS (pickS (pickS (pickS (pickS (pickS (pickS (pickS (pickS (pickS (pickS (pickS (pickS (pickS (pickS (pickS pickZ)))))))))))))))))))) (want0 rfl) (by kernel_rfl) (x_callE (args := #[(.int .i64 v8), (.agg #[(.int .i64 rKind25), (.int .i64 rFrom25), (.int .i64 rTo25), (.int .u64 rNum25), (.string rText25), rKids25.v])]) Try.call121 (by kernel_rfl)) (h.mono ?_)
              clear h
              rintro e w38 ⟨rKind26, rFrom26, rTo26, rNum26, rText26, rKids26, rfl, h⟩
              refine ⟨_, rfl, .inl (by kernel_rfl), ?_⟩
              refine lgo (k := 20) (by kernel_rfl) ?_
              obtain ⟨hp8, h⟩ := h
              refine sl_set (pickA (pickS (pickS (pickS (pickS (pickS (pickS (pickS (pickS (pickS (pickS (pickS (pickS (pickS (pickS (pickS (pickS (pickS (pickS (pickS (pickS pickZ))))))))))))))))))))) (want0 rfl) (by kernel_rfl) (x_storeA (a := p2) (vs := [(.int .i64 rKind26), (.int .i64 rFrom26), (.int .i64 rTo26), (.int .u64 rNum26), (.string rText26), rKids26.v]) (by kernel_rfl) (by kernel_rfl) rfl (Try.sizeOf116 _) rfl hp8) ?_
              intro w39 hn8
              replace h := h w39 hn8
              refine ⟨.inl (by kernel_rfl), ?_⟩
              refine wpX_nil (by kernel_rfl) ?_
              refine th_n ?_
              refine wpE_ret ?_
              refine bl_r ?_
              refine th_r ?_
              obtain ⟨qKind7, qFrom7, qTo7, qNum7, qText7, qKids7, hv13, h⟩ := h
              refine resG (.inl rfl) (rs := [.cell 6 116]) (vs := [(.agg #[(.int .i64 qKind7), (.int .i64 qFrom7), (.int .i64 qTo7), (.int .u64 qNum7), (.string qText7), qKids7.v])]) (v := (.agg #[(.int .i64 qKind7), (.int .i64 qFrom7), (.int .i64 qTo7), (.int .u64 qNum7), (.string qText7), qKids7.v])) Try.results74 ⟨(RV.cellA (A := p2) (vs := [(.int .i64 qKind7), (.int .i64 qFrom7), (.int .i64 qTo7), (.int .u64 qNum7), (.string qText7), qKids7.v]) (by kernel_rfl) (Try.isAgg116 _) (Try.sizeOf116 _) rfl hv13), trivial⟩ (by kernel_rfl) ?_
              exact ⟨qKind7, qFrom7, qTo7, qNum7, qText7, qKids7, rfl, h⟩
        · replace h := h.2 hc4
          refine wpE_seq ?_
          refine rg ?_
          refine q0 (.bool ((v3 : Int) == 5)) ?_
          refine q0 (.bool ((v3 : Int) == 5)) ?_
          refine wpL_nil ?_
          refine th_n ?_
          refine wpE_cond (t := ((v3 : Int) == 5)) (by kernel_rfl) (fun hc5 => ?_) (fun hc5 => ?_)
          · replace h := h.1 hc5
            refine wpE_seq ?_
            obtain ⟨C3, hC, h⟩ := h
            refine wpE_drawnC C3 [0, 3, 4, 5, 6] [3, 4, 5, 6] (by kernel_rfl) (by kernel_rfl) (by kernel_rfl) (by kernel_rfl) hC ?_
            clear hC
            intro w40 hw40
            replace h := h w40 hw40
            refine qx 1 (.pointer (some (p1.add 2))) Kp1 ?_
            refine qgo (k := 2) (by kernel_rfl) ?_
            obtain ⟨v11, hv20, h⟩ := h
            refine sx (v := (.int .u64 v11)) Kp2 (want0 rfl) (by kernel_rfl) (fun w' hw' => (x_load (a := (p1.add 2)) (by kernel_rfl) (Try.isAgg38 _) (hv20 w' hw'))) ?_
            refine lgo (k := 0) (by kernel_rfl) ?_
            refine sl_call Kp0 (want0 rfl) (by kernel_rfl) (x_callE (args := #[(.string (⟨#[97, 98, 111, 114, 116, 101, 100]⟩ : ByteArray))]) Try.call123 (by kernel_rfl)) (h.mono ?_)
            clear h
            rintro e w41 ⟨rKind27, rFrom27, rTo27, rNum27, rText27, rKids27, rfl, hC, h⟩
            refine ⟨_, rfl, .inr hC, ?_⟩
            refine lgo (k := 3) (by kernel_rfl) ?_
            refine sl_call Kp3 (want0 rfl) (by kernel_rfl) (x_callE (args := #[(.int .u64 v11)]) Try.call124 (by kernel_rfl)) (h.mono ?_)
            clear h
            rintro e w42 ⟨rKind28, rFrom28, rTo28, rNum28, rText28, rKids28, rfl, h⟩
            refine ⟨_, rfl, .inl (by kernel_rfl), ?_⟩
            refine lgo (k := 4) (by kernel_rfl) ?_
            refine sl_call Kp4 (want0 rfl) (by kernel_rfl) (x_callE (args := #[(.agg #[(.int .i64 rKind27), (.int .i64 rFrom27), (.int .i64 rTo27), (.int .u64 rNum27), (.string rText27), rKids27.v]), (.agg #[(.int .i64 rKind28), (.int .i64 rFrom28), (.int .i64 rTo28), (.int .u64 rNum28), (.string rText28), rKids28.v])]) Try.call122 (by kernel_rfl)) (h.mono ?_)
            clear h
            rintro e w43 ⟨rKind29, rFrom29, rTo29, rNum29, rText29, rKids29, rfl, h⟩
            refine ⟨_, rfl, .inl (by kernel_rfl), ?_⟩
            refine lgo (k := 5) (by kernel_rfl) ?_
            refine sl_call Kp5 (want0 rfl) (by kernel_rfl) (x_callE (args := #[(.int .i64 2), (.agg #[(.int .i64 rKind29), (.int .i64 rFrom29), (.int .i64 rTo29), (.int .u64 rNum29), (.string rText29), rKids29.v])]) Try.call121 (by kernel_rfl)) (h.mono ?_)
            clear h
            rintro e w44 ⟨rKind30, rFrom30, rTo30, rNum30, rText30, rKids30, rfl, h⟩
            refine ⟨_, rfl, .inl (by kernel_rfl), ?_⟩
            refine lgo (k := 6) (by kernel_rfl) ?_
            obtain ⟨hp9, h⟩ := h
            refine sl_set Kp6 (want0 rfl) (by kernel_rfl) (x_storeA (a := p2) (vs := [(.int .i64 rKind30), (.int .i64 rFrom30), (.int .i64 rTo30), (.int .u64 rNum30), (.string rText30), rKids30.v]) (by kernel_rfl) (by kernel_rfl) rfl (Try.sizeOf116 _) rfl hp9) ?_
            intro w45 hn9
            replace h := h w45 hn9
            refine ⟨.inl (by kernel_rfl), ?_⟩
            refine wpX_nil (by kernel_rfl) ?_
            refine th_n ?_
            refine wpE_ret ?_
            refine bl_r ?_
            refine th_r ?_
            obtain ⟨qKind8, qFrom8, qTo8, qNum8, qText8, qKids8, hv19, h⟩ := h
            refine resG (.inl rfl) (rs := [.cell 6 116]) (vs := [(.agg #[(.int .i64 qKind8), (.int .i64 qFrom8), (.int .i64 qTo8), (.int .u64 qNum8), (.string qText8), qKids8.v])]) (v := (.agg #[(.int .i64 qKind8), (.int .i64 qFrom8), (.int .i64 qTo8), (.int .u64 qNum8), (.string qText8), qKids8.v])) Try.results74 ⟨(RV.cellA (A := p2) (vs := [(.int .i64 qKind8), (.int .i64 qFrom8), (.int .i64 qTo8), (.int .u64 qNum8), (.string qText8), qKids8.v]) (by kernel_rfl) (Try.isAgg116 _) (Try.sizeOf116 _) rfl hv19), trivial⟩ (by kernel_rfl) ?_
            exact ⟨qKind8, qFrom8, qTo8, qNum8, qText8, qKids8, rfl, h⟩
          · replace h := h.2 hc5
            refine wpE_seq ?_
            refine rg ?_
            refine q0 (.bool ((v3 : Int) == 6)) ?_
            refine q0 (.bool ((v3 : Int) == 6)) ?_
            refine wpL_nil ?_
            refine th_n ?_
            refine wpE_cond (t := ((v3 : Int) == 6)) (by kernel_rfl) (fun hc6 => ?_) (fun hc6 => ?_)
            · replace h := h.1 hc6
              refine wpE_seq ?_
              obtain ⟨C4, hC, h⟩ := h
              refine wpE_drawnC C4 [0, 2, 3, 4] [2, 3, 4] (by kernel_rfl) (by kernel_rfl) (by kernel_rfl) (by kernel_rfl) hC ?_
              clear hC
              intro w46 hw46
              replace h := h w46 hw46
              refine qgo (k := 1) (by kernel_rfl) ?_
              obtain ⟨vKind5, vFrom5, vTo5, vNum5, vText5, vKids5, hv22, h⟩ := h
              refine sx (v := (.agg #[(.int .i64 vKind5), (.int .i64 vFrom5), (.int .i64 vTo5), (.int .u64 vNum5), (.string vText5), vKids5.v])) Kp1 (want0 rfl) (by kernel_rfl) (fun w' hw' => (x_loadA (a := p3) (vs := [(.int .i64 vKind5), (.int .i64 vFrom5), (.int .i64 vTo5), (.int .u64 vNum5), (.string vText5), vKids5.v]) (by kernel_rfl) (Try.isAgg116 _) (Try.sizeOf116 _) rfl (hv22 w' hw'))) ?_
              refine lgo (k := 0) (by kernel_rfl) ?_
              refine sl_call Kp0 (want0 rfl) (by kernel_rfl) (x_callE (args := #[(.string (⟨#[105, 110, 115, 116, 101, 97, 100]⟩ : ByteArray))]) Try.call123 (by kernel_rfl)) (h.mono ?_)
              clear h
              rintro e w47 ⟨rKind31, rFrom31, rTo31, rNum31, rText31, rKids31, rfl, hC, h⟩
              refine ⟨_, rfl, .inr hC, ?_⟩
              refine lgo (k := 2) (by kernel_rfl) ?_
              refine sl_call Kp2 (want0 rfl) (by kernel_rfl) (x_callE (args := #[(.agg #[(.int .i64 rKind31), (.int .i64 rFrom31), (.int .i64 rTo31), (.int .u64 rNum31), (.string rText31), rKids31.v]), (.agg #[(.int .i64 vKind5), (.int .i64 vFrom5), (.int .i64 vTo5), (.int .u64 vNum5), (.string vText5), vKids5.v])]) Try.call122 (by kernel_rfl)) (h.mono ?_)
              clear h
              rintro e w48 ⟨rKind32, rFrom32, rTo32, rNum32, rText32, rKids32, rfl, h⟩
              refine ⟨_, rfl, .inl (by kernel_rfl), ?_⟩
              refine lgo (k := 3) (by kernel_rfl) ?_
              refine sl_call Kp3 (want0 rfl) (by kernel_rfl) (x_callE (args := #[(.int .i64 2), (.agg #[(.int .i64 rKind32), (.int .i64 rFrom32), (.int .i64 rTo32), (.int .u64 rNum32), (.string rText32), rKids32.v])]) Try.call121 (by kernel_rfl)) (h.mono ?_)
              clear h
              rintro e w49 ⟨rKind33, rFrom33, rTo33, rNum33, rText33, rKids33, rfl, h⟩
              refine ⟨_, rfl, .inl (by kernel_rfl), ?_⟩
              refine lgo (k := 4) (by kernel_rfl) ?_
              obtain ⟨hp10, h⟩ := h
              refine sl_set Kp4 (want0 rfl) (by kernel_rfl) (x_storeA (a := p2) (vs := [(.int .i64 rKind33), (.int .i64 rFrom33), (.int .i64 rTo33), (.int .u64 rNum33), (.string rText33), rKids33.v]) (by kernel_rfl) (by kernel_rfl) rfl (Try.sizeOf116 _) rfl hp10) ?_
              intro w50 hn10
              replace h := h w50 hn10
              refine ⟨.inl (by kernel_rfl), ?_⟩
              refine wpX_nil (by kernel_rfl) ?_
              refine th_n ?_
              refine wpE_ret ?_
              refine bl_r ?_
              refine th_r ?_
              obtain ⟨qKind9, qFrom9, qTo9, qNum9, qText9, qKids9, hv21, h⟩ := h
              refine resG (.inl rfl) (rs := [.cell 6 116]) (vs := [(.agg #[(.int .i64 qKind9), (.int .i64 qFrom9), (.int .i64 qTo9), (.int .u64 qNum9), (.string qText9), qKids9.v])]) (v := (.agg #[(.int .i64 qKind9), (.int .i64 qFrom9), (.int .i64 qTo9), (.int .u64 qNum9), (.string qText9), qKids9.v])) Try.results74 ⟨(RV.cellA (A := p2) (vs := [(.int .i64 qKind9), (.int .i64 qFrom9), (.int .i64 qTo9), (.int .u64 qNum9), (.string qText9), qKids9.v]) (by kernel_rfl) (Try.isAgg116 _) (Try.sizeOf116 _) rfl hv21), trivial⟩ (by kernel_rfl) ?_
              exact ⟨qKind9, qFrom9, qTo9, qNum9, qText9, qKids9, rfl, h⟩
            · replace h := h.2 hc6
              refine wpE_skip ?_
              refine bl_n ?_
              refine th_n ?_
              refine wpE_seq ?_
              obtain ⟨C5, hC, h⟩ := h
              refine wpE_drawnC C5 [0, 3, 4, 5] [3, 4, 5] (by kernel_rfl) (by kernel_rfl) (by kernel_rfl) (by kernel_rfl) hC ?_
              clear hC
              intro w51 hw51
              replace h := h w51 hw51
              refine qx 1 (.pointer (some (p1.add 2))) Kp1 ?_
              refine qgo (k := 2) (by kernel_rfl) ?_
              obtain ⟨v12, hv24, h⟩ := h
              refine sx (v := (.int .u64 v12)) Kp2 (want0 rfl) (by kernel_rfl) (fun w' hw' => (x_load (a := (p1.add 2)) (by kernel_rfl) (Try.isAgg38 _) (hv24 w' hw'))) ?_
              refine lgo (k := 0) (by kernel_rfl) ?_
              refine sl_call Kp0 (want0 rfl) (by kernel_rfl) (x_callE (args := #[(.string (⟨#[102, 117, 108, 108]⟩ : ByteArray))]) Try.call123 (by kernel_rfl)) (h.mono ?_)
              clear h
              rintro e w52 ⟨rKind34, rFrom34, rTo34, rNum34, rText34, rKids34, rfl, hC, h⟩
              refine ⟨_, rfl, .inr hC, ?_⟩
              refine lgo (k := 3) (by kernel_rfl) ?_
              refine sl_call Kp3 (want0 rfl) (by kernel_rfl) (x_callE (args := #[(.int .u64 v12)]) Try.call124 (by kernel_rfl)) (h.mono ?_)
              clear h
              rintro e w53 ⟨rKind35, rFrom35, rTo35, rNum35, rText35, rKids35, rfl, h⟩
              refine ⟨_, rfl, .inl (by kernel_rfl), ?_⟩
              refine lgo (k := 4) (by kernel_rfl) ?_
              refine sl_call Kp4 (want0 rfl) (by kernel_rfl) (x_callE (args := #[(.agg #[(.int .i64 rKind34), (.int .i64 rFrom34), (.int .i64 rTo34), (.int .u64 rNum34), (.string rText34), rKids34.v]), (.agg #[(.int .i64 rKind35), (.int .i64 rFrom35), (.int .i64 rTo35), (.int .u64 rNum35), (.string rText35), rKids35.v])]) Try.call122 (by kernel_rfl)) (h.mono ?_)
              clear h
              rintro e w54 ⟨rKind36, rFrom36, rTo36, rNum36, rText36, rKids36, rfl, h⟩
              refine ⟨_, rfl, .inl (by kernel_rfl), ?_⟩
              refine lgo (k := 5) (by kernel_rfl) ?_
              obtain ⟨hp11, h⟩ := h
              refine sl_set Kp5 (want0 rfl) (by kernel_rfl) (x_storeA (a := p2) (vs := [(.int .i64 rKind36), (.int .i64 rFrom36), (.int .i64 rTo36), (.int .u64 rNum36), (.string rText36), rKids36.v]) (by kernel_rfl) (by kernel_rfl) rfl (Try.sizeOf116 _) rfl hp11) ?_
              intro w55 hn11
              replace h := h w55 hn11
              refine ⟨.inl (by kernel_rfl), ?_⟩
              refine wpX_nil (by kernel_rfl) ?_
              refine th_n ?_
              refine wpE_ret ?_
              obtain ⟨qKind10, qFrom10, qTo10, qNum10, qText10, qKids10, hv23, h⟩ := h
              refine resG (.inl rfl) (rs := [.cell 6 116]) (vs := [(.agg #[(.int .i64 qKind10), (.int .i64 qFrom10), (.int .i64 qTo10), (.int .u64 qNum10), (.string qText10), qKids10.v])]) (v := (.agg #[(.int .i64 qKind10), (.int .i64 qFrom10), (.int .i64 qTo10), (.int .u64 qNum10), (.string qText10), qKids10.v])) Try.results74 ⟨(RV.cellA (A := p2) (vs := [(.int .i64 qKind10), (.int .i64 qFrom10), (.int .i64 qTo10), (.int .u64 qNum10), (.string qText10), qKids10.v]) (by kernel_rfl) (Try.isAgg116 _) (Try.sizeOf116 _) rfl hv23), trivial⟩ (by kernel_rfl) ?_
              exact ⟨qKind10, qFrom10, qTo10, qNum10, qText10, qKids10, rfl, h⟩

def m_ref11_Deal (c1 : Int) (text1 : ByteArray) (w : World) (K : Int → Int → Int → Int → ByteArray → Sl → World → Prop) : Prop :=
  ∀ (p1 : Addr) (w1 : World), New w (.cells #[(.int .i64 0), (.int .i64 0), (.int .i64 0), (.int .u64 0), (.string (⟨#[]⟩ : ByteArray)), Sl.nil.v] 116) p1 w1 →
  Calls Try.prog 123 #[(.string (⟨#[100, 101, 97, 108]⟩ : ByteArray))] w1 (fun e w2 => ∃ rKind1 : Int, ∃ rFrom1 : Int, ∃ rTo1 : Int, ∃ rNum1 : Int, ∃ rText1 : ByteArray, ∃ rKids1 : Sl, e = .returned (.agg #[(.int .i64 rKind1), (.int .i64 rFrom1), (.int .i64 rTo1), (.int .u64 rNum1), (.string rText1), rKids1.v]) ∧ 
    Calls Try.prog 124 #[(.int .u64 c1)] w2 (fun e w3 => ∃ rKind2 : Int, ∃ rFrom2 : Int, ∃ rTo2 : Int, ∃ rNum2 : Int, ∃ rText2 : ByteArray, ∃ rKids2 : Sl, e = .returned (.agg #[(.int .i64 rKind2), (.int .i64 rFrom2), (.int .i64 rTo2), (.int .u64 rNum2), (.string rText2), rKids2.v]) ∧ 
      Calls Try.prog 123 #[(.string text1)] w3 (fun e w4 => ∃ rKind3 : Int, ∃ rFrom3 : Int, ∃ rTo3 : Int, ∃ rNum3 : Int, ∃ rText3 : ByteArray, ∃ rKids3 : Sl, e = .returned (.agg #[(.int .i64 rKind3), (.int .i64 rFrom3), (.int .i64 rTo3), (.int .u64 rNum3), (.string rText3), rKids3.v]) ∧ 
        Calls Try.prog 122 #[(.agg #[(.int .i64 rKind2), (.int .i64 rFrom2), (.int .i64 rTo2), (.int .u64 rNum2), (.string rText2), rKids2.v]), (.agg #[(.int .i64 rKind3), (.int .i64 rFrom3), (.int .i64 rTo3), (.int .u64 rNum3), (.string rText3), rKids3.v])] w4 (fun e w5 => ∃ rKind4 : Int, ∃ rFrom4 : Int, ∃ rTo4 : Int, ∃ rNum4 : Int, ∃ rText4 : ByteArray, ∃ rKids4 : Sl, e = .returned (.agg #[(.int .i64 rKind4), (.int .i64 rFrom4), (.int .i64 rTo4), (.int .u64 rNum4), (.string rText4), rKids4.v]) ∧ 
          Calls Try.prog 122 #[(.agg #[(.int .i64 rKind1), (.int .i64 rFrom1), (.int .i64 rTo1), (.int .u64 rNum1), (.string rText1), rKids1.v]), (.agg #[(.int .i64 rKind4), (.int .i64 rFrom4), (.int .i64 rTo4), (.int .u64 rNum4), (.string rText4), rKids4.v])] w5 (fun e w6 => ∃ rKind5 : Int, ∃ rFrom5 : Int, ∃ rTo5 : Int, ∃ rNum5 : Int, ∃ rText5 : ByteArray, ∃ rKids5 : Sl, e = .returned (.agg #[(.int .i64 rKind5), (.int .i64 rFrom5), (.int .i64 rTo5), (.int .u64 rNum5), (.string rText5), rKids5.v]) ∧ 
            (∀ j, j < 6 → CanW w6 (p1.add j)) ∧ ∀ w7 : World, w7 = storeRow w6 p1 [(.int .i64 rKind5), (.int .i64 rFrom5), (.int .i64 rTo5), (.int .u64 rNum5), (.string rText5), rKids5.v] →
            ∃ qKind1 : Int, ∃ qFrom1 : Int, ∃ qTo1 : Int, ∃ qNum1 : Int, ∃ qText1 : ByteArray, ∃ qKids1 : Sl, Row w7 p1 [(.int .i64 qKind1), (.int .i64 qFrom1), (.int .i64 qTo1), (.int .u64 qNum1), (.string qText1), qKids1.v] ∧
            K qKind1 qFrom1 qTo1 qNum1 qText1 qKids1 w7)))))
set_option maxRecDepth 100000 in
set_option maxHeartbeats 4000000 in
theorem w_ref11_Deal (c1 : Int) (text1 : ByteArray) (w : World) (K : Int → Int → Int → Int → ByteArray → Sl → World → Prop) (h : m_ref11_Deal c1 text1 w K) :
    Calls Try.prog 119 #[(.int .u64 c1), (.string text1)] w (fun e w' => ∃ rKind6 : Int, ∃ rFrom6 : Int, ∃ rTo6 : Int, ∃ rNum6 : Int, ∃ rText6 : ByteArray, ∃ rKids6 : Sl, e = .returned (.agg #[(.int .i64 rKind6), (.int .i64 rFrom6), (.int .i64 rTo6), (.int .u64 rNum6), (.string rText6), rKids6.v]) ∧ K rKind6 rFrom6 rTo6 rNum6 rText6 rKids6 w') := by
  unfold m_ref11_Deal at h
  refine calls_of_wpE (args := [(.int .u64 c1), (.string text1)]) Try.func119 rfl Try.ntmps119 (Nat.le_of_ble_eq_true rfl) ?_
  refine wpE_seq ?_
  refine rg ?_
  refine st_new (O := (.cells #[(.int .i64 0), (.int .i64 0), (.int .i64 0), (.int .u64 0), (.string (⟨#[]⟩ : ByteArray)), Sl.nil.v] 116)) (fun p => .pointer (some p)) (want0 rfl) (x_alloc (Try.zeroValue116 _) rfl) ?_
  intro p1 w1 hn2
  replace h := h p1 w1 hn2
  refine wpL_nil ?_
  refine th_n ?_
  refine wpE_seq ?_
  refine rg ?_
  refine st_call (want0 rfl) (x_callE (args := #[(.string (⟨#[100, 101, 97, 108]⟩ : ByteArray))]) Try.call123 (by kernel_rfl)) (h.mono ?_)
  clear h
  rintro e w2 ⟨rKind1, rFrom1, rTo1, rNum1, rText1, rKids1, rfl, h⟩
  refine ⟨_, rfl, ?_⟩
  refine q0 (.int .u64 c1) ?_
  refine st_call (want0 rfl) (x_callE (args := #[(.int .u64 c1)]) Try.call124 (by kernel_rfl)) (h.mono ?_)
  clear h
  rintro e w3 ⟨rKind2, rFrom2, rTo2, rNum2, rText2, rKids2, rfl, h⟩
  refine ⟨_, rfl, ?_⟩
  refine q0 (.string text1) ?_
  refine st_call (want0 rfl) (x_callE (args := #[(.string text1)]) Try.call123 (by kernel_rfl)) (h.mono ?_)
  clear h
  rintro e w4 ⟨rKind3, rFrom3, rTo3, rNum3, rText3, rKids3, rfl, h⟩
  refine ⟨_, rfl, ?_⟩
  refine st_call (want0 rfl) (x_callE (args := #[(.agg #[(.int .i64 rKind2), (.int .i64 rFrom2), (.int .i64 rTo2), (.int .u64 rNum2), (.string rText2), rKids2.v]), (.agg #[(.int .i64 rKind3), (.int .i64 rFrom3), (.int .i64 rTo3), (.int .u64 rNum3), (.string rText3), rKids3.v])]) Try.call122 (by kernel_rfl)) (h.mono ?_)
  clear h
  rintro e w5 ⟨rKind4, rFrom4, rTo4, rNum4, rText4, rKids4, rfl, h⟩
  refine ⟨_, rfl, ?_⟩
  refine st_call (want0 rfl) (x_callE (args := #[(.agg #[(.int .i64 rKind1), (.int .i64 rFrom1), (.int .i64 rTo1), (.int .u64 rNum1), (.string rText1), rKids1.v]), (.agg #[(.int .i64 rKind4), (.int .i64 rFrom4), (.int .i64 rTo4), (.int .u64 rNum4), (.string rText4), rKids4.v])]) Try.call122 (by kernel_rfl)) (h.mono ?_)
  clear h
  rintro e w6 ⟨rKind5, rFrom5, rTo5, rNum5, rText5, rKids5, rfl, h⟩
  refine ⟨_, rfl, ?_⟩
  obtain ⟨hp1, h⟩ := h
  refine st_set (want0 rfl) (x_storeA (a := p1) (vs := [(.int .i64 rKind5), (.int .i64 rFrom5), (.int .i64 rTo5), (.int .u64 rNum5), (.string rText5), rKids5.v]) (by kernel_rfl) (by kernel_rfl) rfl (Try.sizeOf116 _) rfl hp1) ?_
  intro w7 hn1
  replace h := h w7 hn1
  refine wpL_nil ?_
  refine th_n ?_
  refine wpE_ret ?_
  obtain ⟨qKind1, qFrom1, qTo1, qNum1, qText1, qKids1, hv1, h⟩ := h
  refine resG (.inl rfl) (rs := [.cell 4 116]) (vs := [(.agg #[(.int .i64 qKind1), (.int .i64 qFrom1), (.int .i64 qTo1), (.int .u64 qNum1), (.string qText1), qKids1.v])]) (v := (.agg #[(.int .i64 qKind1), (.int .i64 qFrom1), (.int .i64 qTo1), (.int .u64 qNum1), (.string qText1), qKids1.v])) Try.results119 ⟨(RV.cellA (A := p1) (vs := [(.int .i64 qKind1), (.int .i64 qFrom1), (.int .i64 qTo1), (.int .u64 qNum1), (.string qText1), qKids1.v]) (by kernel_rfl) (Try.isAgg116 _) (Try.sizeOf116 _) rfl hv1), trivial⟩ (by kernel_rfl) ?_
  exact ⟨qKind1, qFrom1, qTo1, qNum1, qText1, qKids1, rfl, h⟩

def m_ref11_promise (who1 : Int) (aKind1 : Int) (aFrom1 : Int) (aTo1 : Int) (aNum1 : Int) (aText1 : ByteArray) (aKids1 : Sl) (fake1 : Bool) (w : World) (K : Int → Int → Int → Int → ByteArray → Sl → World → Prop) : Prop :=
  ∀ (p1 : Addr) (w1 : World), New w (.cells #[(.int .i64 aKind1), (.int .i64 aFrom1), (.int .i64 aTo1), (.int .u64 aNum1), (.string aText1), aKids1.v] 116) p1 w1 →
  ∀ (p2 : Addr) (w2 : World), New w1 (.cells #[(.int .i64 0), (.int .i64 0), (.int .i64 0), (.int .u64 0), (.string (⟨#[]⟩ : ByteArray)), Sl.nil.v] 116) p2 w2 →
  Br fake1
    (∃ vKind1 : Int, ∃ vFrom1 : Int, ∃ vTo1 : Int, ∃ vNum1 : Int, ∃ vText1 : ByteArray, ∃ vKids1 : Sl, Row w2 p1 [(.int .i64 vKind1), (.int .i64 vFrom1), (.int .i64 vTo1), (.int .u64 vNum1), (.string vText1), vKids1.v] ∧
    ∀ (p3 : Addr) (w3 : World), New w2 (.cells #[(.int .i64 vKind1), (.int .i64 vFrom1), (.int .i64 vTo1), (.int .u64 vNum1), (.string vText1), vKids1.v] 116) p3 w3 →
    (∀ j, j < 6 → CanW w3 (p2.add j)) ∧ ∀ w4 : World, w4 = storeRow w3 p2 [(.int .i64 9), (.int .i64 who1), (.int .i64 (IntKind.i64.wrap (1 - who1))), (.int .u64 0), (.string (⟨#[]⟩ : ByteArray)), (Sl.mk (some p3) 1 1).v] →
    ∃ qKind1 : Int, ∃ qFrom1 : Int, ∃ qTo1 : Int, ∃ qNum1 : Int, ∃ qText1 : ByteArray, ∃ qKids1 : Sl, Row w4 p2 [(.int .i64 qKind1), (.int .i64 qFrom1), (.int .i64 qTo1), (.int .u64 qNum1), (.string qText1), qKids1.v] ∧
    K qKind1 qFrom1 qTo1 qNum1 qText1 qKids1 w4)
    (∃ vKind2 : Int, ∃ vFrom2 : Int, ∃ vTo2 : Int, ∃ vNum2 : Int, ∃ vText2 : ByteArray, ∃ vKids2 : Sl, Row w2 p1 [(.int .i64 vKind2), (.int .i64 vFrom2), (.int .i64 vTo2), (.int .u64 vNum2), (.string vText2), vKids2.v] ∧
    ∀ (p4 : Addr) (w5 : World), New w2 (.cells #[(.int .i64 vKind2), (.int .i64 vFrom2), (.int .i64 vTo2), (.int .u64 vNum2), (.string vText2), vKids2.v] 116) p4 w5 →
    (∀ j, j < 6 → CanW w5 (p2.add j)) ∧ ∀ w6 : World, w6 = storeRow w5 p2 [(.int .i64 8), (.int .i64 who1), (.int .i64 (IntKind.i64.wrap (1 - who1))), (.int .u64 0), (.string (⟨#[]⟩ : ByteArray)), (Sl.mk (some p4) 1 1).v] →
    ∃ qKind2 : Int, ∃ qFrom2 : Int, ∃ qTo2 : Int, ∃ qNum2 : Int, ∃ qText2 : ByteArray, ∃ qKids2 : Sl, Row w6 p2 [(.int .i64 qKind2), (.int .i64 qFrom2), (.int .i64 qTo2), (.int .u64 qNum2), (.string qText2), qKids2.v] ∧
    K qKind2 qFrom2 qTo2 qNum2 qText2 qKids2 w6)
set_option maxRecDepth 100000 in
set_option maxHeartbeats 4000000 in
theorem w_ref11_promise (who1 : Int) (aKind1 : Int) (aFrom1 : Int) (aTo1 : Int) (aNum1 : Int) (aText1 : ByteArray) (aKids1 : Sl) (fake1 : Bool) (w : World) (K : Int → Int → Int → Int → ByteArray → Sl → World → Prop) (h : m_ref11_promise who1 aKind1 aFrom1 aTo1 aNum1 aText1 aKids1 fake1 w K) :
    Calls Try.prog 120 #[(.int .i64 who1), (.agg #[(.int .i64 aKind1), (.int .i64 aFrom1), (.int .i64 aTo1), (.int .u64 aNum1), (.string aText1), aKids1.v]), (.bool fake1)] w (fun e w' => ∃ rKind1 : Int, ∃ rFrom1 : Int, ∃ rTo1 : Int, ∃ rNum1 : Int, ∃ rText1 : ByteArray, ∃ rKids1 : Sl, e = .returned (.agg #[(.int .i64 rKind1), (.int .i64 rFrom1), (.int .i64 rTo1), (.int .u64 rNum1), (.string rText1), rKids1.v]) ∧ K rKind1 rFrom1 rTo1 rNum1 rText1 rKids1 w') := by
  unfold m_ref11_promise at h
  refine calls_of_wpE (args := [(.int .i64 who1), (.agg #[(.int .i64 aKind1), (.int .i64 aFrom1), (.int .i64 aTo1), (.int .u64 aNum1), (.string aText1), aKids1.v]), (.bool fake1)]) Try.func120 rfl Try.ntmps120 (Nat.le_of_ble_eq_true rfl) ?_
  refine wpE_seq ?_
  refine rg ?_
  refine st_new (O := (.cells #[(.int .i64 aKind1), (.int .i64 aFrom1), (.int .i64 aTo1), (.int .u64 aNum1), (.string aText1), aKids1.v] 116)) (fun p => .pointer (some p)) (want0 rfl) (x_box (cs := #[(.int .i64 aKind1), (.int .i64 aFrom1), (.int .i64 aTo1), (.int .u64 aNum1), (.string aText1), aKids1.v]) (by kernel_rfl)) ?_
  intro p1 w1 hn6
  replace h := h p1 w1 hn6
  refine st_new (O := (.cells #[(.int .i64 0), (.int .i64 0), (.int .i64 0), (.int .u64 0), (.string (⟨#[]⟩ : ByteArray)), Sl.nil.v] 116)) (fun p => .pointer (some p)) (want0 rfl) (x_alloc (Try.zeroValue116 _) rfl) ?_
  intro p2 w2 hn5
  replace h := h p2 w2 hn5
  refine wpL_nil ?_
  refine th_n ?_
  refine wpE_seq ?_
  refine rg ?_
  refine q0 (.int .i64 8) ?_
  refine wpL_nil ?_
  refine th_n ?_
  refine wpE_seq ?_
  refine wpE_seq ?_
  refine rg ?_
  refine q0 (.bool fake1) ?_
  refine wpL_nil ?_
  refine th_n ?_
  refine wpE_cond (t := fake1) (by kernel_rfl) (fun hc1 => ?_) (fun hc1 => ?_)
  · replace h := h.1 hc1
    refine rg ?_
    refine q0 (.int .i64 9) ?_
    refine wpL_nil ?_
    refine th_n ?_
    refine wpE_seq ?_
    refine rg ?_
    refine q0 (.int .i64 9) ?_
    refine q0 (.int .i64 who1) ?_
    refine q0 (.int .i64 who1) ?_
    refine q0 (.int .i64 (IntKind.i64.wrap (1 - who1))) ?_
    obtain ⟨vKind1, vFrom1, vTo1, vNum1, vText1, vKids1, hv2, h⟩ := h
    refine q2 (.agg #[(.int .i64 vKind1), (.int .i64 vFrom1), (.int .i64 vTo1), (.int .u64 vNum1), (.string vText1), vKids1.v]) (x_loadA (a := p1) (vs := [(.int .i64 vKind1), (.int .i64 vFrom1), (.int .i64 vTo1), (.int .u64 vNum1), (.string vText1), vKids1.v]) (by kernel_rfl) (Try.isAgg116 _) (Try.sizeOf116 _) rfl hv2) ?_
    refine st_new (O := (.cells #[(.int .i64 vKind1), (.int .i64 vFrom1), (.int .i64 vTo1), (.int .u64 vNum1), (.string vText1), vKids1.v] 116)) (fun p => (Sl.mk (some p) 1 1).v) (want0 rfl) (x_buildSlice (vs := #[(0, (.agg #[(.int .i64 vKind1), (.int .i64 vFrom1), (.int .i64 vTo1), (.int .u64 vNum1), (.string vText1), vKids1.v]))]) (by kernel_rfl) (by kernel_rfl)) ?_
    intro p3 w3 hn2
    replace h := h p3 w3 hn2
    refine q0 (.agg #[(.int .i64 9), (.int .i64 who1), (.int .i64 (IntKind.i64.wrap (1 - who1))), (.int .u64 0), (.string (⟨#[]⟩ : ByteArray)), (Sl.mk (some p3) 1 1).v]) ?_
    obtain ⟨hp1, h⟩ := h
    refine st_set (want0 rfl) (x_storeA (a := p2) (vs := [(.int .i64 9), (.int .i64 who1), (.int .i64 (IntKind.i64.wrap (1 - who1))), (.int .u64 0), (.string (⟨#[]⟩ : ByteArray)), (Sl.mk (some p3) 1 1).v]) (by kernel_rfl) (by kernel_rfl) rfl (Try.sizeOf116 _) rfl hp1) ?_
    intro w4 hn1
    replace h := h w4 hn1
    refine wpL_nil ?_
    refine th_n ?_
    refine wpE_ret ?_
    obtain ⟨qKind1, qFrom1, qTo1, qNum1, qText1, qKids1, hv1, h⟩ := h
    refine resG (.inl rfl) (rs := [.cell 6 116]) (vs := [(.agg #[(.int .i64 qKind1), (.int .i64 qFrom1), (.int .i64 qTo1), (.int .u64 qNum1), (.string qText1), qKids1.v])]) (v := (.agg #[(.int .i64 qKind1), (.int .i64 qFrom1), (.int .i64 qTo1), (.int .u64 qNum1), (.string qText1), qKids1.v])) Try.results120 ⟨(RV.cellA (A := p2) (vs := [(.int .i64 qKind1), (.int .i64 qFrom1), (.int .i64 qTo1), (.int .u64 qNum1), (.string qText1), qKids1.v]) (by kernel_rfl) (Try.isAgg116 _) (Try.sizeOf116 _) rfl hv1), trivial⟩ (by kernel_rfl) ?_
    exact ⟨qKind1, qFrom1, qTo1, qNum1, qText1, qKids1, rfl, h⟩
  · replace h := h.2 hc1
    refine wpE_skip ?_
    refine th_n ?_
    refine wpE_seq ?_
    refine rg ?_
    refine q0 (.int .i64 8) ?_
    refine q0 (.int .i64 who1) ?_
    refine q0 (.int .i64 who1) ?_
    refine q0 (.int .i64 (IntKind.i64.wrap (1 - who1))) ?_
    obtain ⟨vKind2, vFrom2, vTo2, vNum2, vText2, vKids2, hv4, h⟩ := h
    refine q2 (.agg #[(.int .i64 vKind2), (.int .i64 vFrom2), (.int .i64 vTo2), (.int .u64 vNum2), (.string vText2), vKids2.v]) (x_loadA (a := p1) (vs := [(.int .i64 vKind2), (.int .i64 vFrom2), (.int .i64 vTo2), (.int .u64 vNum2), (.string vText2), vKids2.v]) (by kernel_rfl) (Try.isAgg116 _) (Try.sizeOf116 _) rfl hv4) ?_
    refine st_new (O := (.cells #[(.int .i64 vKind2), (.int .i64 vFrom2), (.int .i64 vTo2), (.int .u64 vNum2), (.string vText2), vKids2.v] 116)) (fun p => (Sl.mk (some p) 1 1).v) (want0 rfl) (x_buildSlice (vs := #[(0, (.agg #[(.int .i64 vKind2), (.int .i64 vFrom2), (.int .i64 vTo2), (.int .u64 vNum2), (.string vText2), vKids2.v]))]) (by kernel_rfl) (by kernel_rfl)) ?_
    intro p4 w5 hn4
    replace h := h p4 w5 hn4
    refine q0 (.agg #[(.int .i64 8), (.int .i64 who1), (.int .i64 (IntKind.i64.wrap (1 - who1))), (.int .u64 0), (.string (⟨#[]⟩ : ByteArray)), (Sl.mk (some p4) 1 1).v]) ?_
    obtain ⟨hp2, h⟩ := h
    refine st_set (want0 rfl) (x_storeA (a := p2) (vs := [(.int .i64 8), (.int .i64 who1), (.int .i64 (IntKind.i64.wrap (1 - who1))), (.int .u64 0), (.string (⟨#[]⟩ : ByteArray)), (Sl.mk (some p4) 1 1).v]) (by kernel_rfl) (by kernel_rfl) rfl (Try.sizeOf116 _) rfl hp2) ?_
    intro w6 hn3
    replace h := h w6 hn3
    refine wpL_nil ?_
    refine th_n ?_
    refine wpE_ret ?_
    obtain ⟨qKind2, qFrom2, qTo2, qNum2, qText2, qKids2, hv3, h⟩ := h
    refine resG (.inl rfl) (rs := [.cell 6 116]) (vs := [(.agg #[(.int .i64 qKind2), (.int .i64 qFrom2), (.int .i64 qTo2), (.int .u64 qNum2), (.string qText2), qKids2.v])]) (v := (.agg #[(.int .i64 qKind2), (.int .i64 qFrom2), (.int .i64 qTo2), (.int .u64 qNum2), (.string qText2), qKids2.v])) Try.results120 ⟨(RV.cellA (A := p2) (vs := [(.int .i64 qKind2), (.int .i64 qFrom2), (.int .i64 qTo2), (.int .u64 qNum2), (.string qText2), qKids2.v]) (by kernel_rfl) (Try.isAgg116 _) (Try.sizeOf116 _) rfl hv3), trivial⟩ (by kernel_rfl) ?_
    exact ⟨qKind2, qFrom2, qTo2, qNum2, qText2, qKids2, rfl, h⟩

def m_ref11_sign (who1 : Int) (aKind1 : Int) (aFrom1 : Int) (aTo1 : Int) (aNum1 : Int) (aText1 : ByteArray) (aKids1 : Sl) (w : World) (K : Int → Int → Int → Int → ByteArray → Sl → World → Prop) : Prop :=
  ∀ (p1 : Addr) (w1 : World), New w (.cells #[(.int .i64 aKind1), (.int .i64 aFrom1), (.int .i64 aTo1), (.int .u64 aNum1), (.string aText1), aKids1.v] 116) p1 w1 →
  ∀ (p2 : Addr) (w2 : World), New w1 (.cells #[(.int .i64 0), (.int .i64 0), (.int .i64 0), (.int .u64 0), (.string (⟨#[]⟩ : ByteArray)), Sl.nil.v] 116) p2 w2 →
  ∃ vKind1 : Int, ∃ vFrom1 : Int, ∃ vTo1 : Int, ∃ vNum1 : Int, ∃ vText1 : ByteArray, ∃ vKids1 : Sl, Row w2 p1 [(.int .i64 vKind1), (.int .i64 vFrom1), (.int .i64 vTo1), (.int .u64 vNum1), (.string vText1), vKids1.v] ∧
  ∀ (p3 : Addr) (w3 : World), New w2 (.cells #[(.int .i64 vKind1), (.int .i64 vFrom1), (.int .i64 vTo1), (.int .u64 vNum1), (.string vText1), vKids1.v] 116) p3 w3 →
  (∀ j, j < 6 → CanW w3 (p2.add j)) ∧ ∀ w4 : World, w4 = storeRow w3 p2 [(.int .i64 7), (.int .i64 who1), (.int .i64 0), (.int .u64 0), (.string (⟨#[]⟩ : ByteArray)), (Sl.mk (some p3) 1 1).v] →
  ∃ qKind1 : Int, ∃ qFrom1 : Int, ∃ qTo1 : Int, ∃ qNum1 : Int, ∃ qText1 : ByteArray, ∃ qKids1 : Sl, Row w4 p2 [(.int .i64 qKind1), (.int .i64 qFrom1), (.int .i64 qTo1), (.int .u64 qNum1), (.string qText1), qKids1.v] ∧
  K qKind1 qFrom1 qTo1 qNum1 qText1 qKids1 w4
set_option maxRecDepth 100000 in
set_option maxHeartbeats 4000000 in
theorem w_ref11_sign (who1 : Int) (aKind1 : Int) (aFrom1 : Int) (aTo1 : Int) (aNum1 : Int) (aText1 : ByteArray) (aKids1 : Sl) (w : World) (K : Int → Int → Int → Int → ByteArray → Sl → World → Prop) (h : m_ref11_sign who1 aKind1 aFrom1 aTo1 aNum1 aText1 aKids1 w K) :
    Calls Try.prog 121 #[(.int .i64 who1), (.agg #[(.int .i64 aKind1), (.int .i64 aFrom1), (.int .i64 aTo1), (.int .u64 aNum1), (.string aText1), aKids1.v])] w (fun e w' => ∃ rKind1 : Int, ∃ rFrom1 : Int, ∃ rTo1 : Int, ∃ rNum1 : Int, ∃ rText1 : ByteArray, ∃ rKids1 : Sl, e = .returned (.agg #[(.int .i64 rKind1), (.int .i64 rFrom1), (.int .i64 rTo1), (.int .u64 rNum1), (.string rText1), rKids1.v]) ∧ K rKind1 rFrom1 rTo1 rNum1 rText1 rKids1 w') := by
  unfold m_ref11_sign at h
  refine calls_of_wpE (args := [(.int .i64 who1), (.agg #[(.int .i64 aKind1), (.int .i64 aFrom1), (.int .i64 aTo1), (.int .u64 aNum1), (.string aText1), aKids1.v])]) Try.func121 rfl Try.ntmps121 (Nat.le_of_ble_eq_true rfl) ?_
  refine wpE_seq ?_
  refine rg ?_
  refine st_new (O := (.cells #[(.int .i64 aKind1), (.int .i64 aFrom1), (.int .i64 aTo1), (.int .u64 aNum1), (.string aText1), aKids1.v] 116)) (fun p => .pointer (some p)) (want0 rfl) (x_box (cs := #[(.int .i64 aKind1), (.int .i64 aFrom1), (.int .i64 aTo1), (.int .u64 aNum1), (.string aText1), aKids1.v]) (by kernel_rfl)) ?_
  intro p1 w1 hn4
  replace h := h p1 w1 hn4
  refine st_new (O := (.cells #[(.int .i64 0), (.int .i64 0), (.int .i64 0), (.int .u64 0), (.string (⟨#[]⟩ : ByteArray)), Sl.nil.v] 116)) (fun p => .pointer (some p)) (want0 rfl) (x_alloc (Try.zeroValue116 _) rfl) ?_
  intro p2 w2 hn3
  replace h := h p2 w2 hn3
  refine wpL_nil ?_
  refine th_n ?_
  refine wpE_seq ?_
  refine rg ?_
  refine q0 (.int .i64 who1) ?_
  obtain ⟨vKind1, vFrom1, vTo1, vNum1, vText1, vKids1, hv2, h⟩ := h
  refine q2 (.agg #[(.int .i64 vKind1), (.int .i64 vFrom1), (.int .i64 vTo1), (.int .u64 vNum1), (.string vText1), vKids1.v]) (x_loadA (a := p1) (vs := [(.int .i64 vKind1), (.int .i64 vFrom1), (.int .i64 vTo1), (.int .u64 vNum1), (.string vText1), vKids1.v]) (by kernel_rfl) (Try.isAgg116 _) (Try.sizeOf116 _) rfl hv2) ?_
  refine st_new (O := (.cells #[(.int .i64 vKind1), (.int .i64 vFrom1), (.int .i64 vTo1), (.int .u64 vNum1), (.string vText1), vKids1.v] 116)) (fun p => (Sl.mk (some p) 1 1).v) (want0 rfl) (x_buildSlice (vs := #[(0, (.agg #[(.int .i64 vKind1), (.int .i64 vFrom1), (.int .i64 vTo1), (.int .u64 vNum1), (.string vText1), vKids1.v]))]) (by kernel_rfl) (by kernel_rfl)) ?_
  intro p3 w3 hn2
  replace h := h p3 w3 hn2
  refine q0 (.agg #[(.int .i64 7), (.int .i64 who1), (.int .i64 0), (.int .u64 0), (.string (⟨#[]⟩ : ByteArray)), (Sl.mk (some p3) 1 1).v]) ?_
  obtain ⟨hp1, h⟩ := h
  refine st_set (want0 rfl) (x_storeA (a := p2) (vs := [(.int .i64 7), (.int .i64 who1), (.int .i64 0), (.int .u64 0), (.string (⟨#[]⟩ : ByteArray)), (Sl.mk (some p3) 1 1).v]) (by kernel_rfl) (by kernel_rfl) rfl (Try.sizeOf116 _) rfl hp1) ?_
  intro w4 hn1
  replace h := h w4 hn1
  refine wpL_nil ?_
  refine th_n ?_
  refine wpE_ret ?_
  obtain ⟨qKind1, qFrom1, qTo1, qNum1, qText1, qKids1, hv1, h⟩ := h
  refine resG (.inl rfl) (rs := [.cell 4 116]) (vs := [(.agg #[(.int .i64 qKind1), (.int .i64 qFrom1), (.int .i64 qTo1), (.int .u64 qNum1), (.string qText1), qKids1.v])]) (v := (.agg #[(.int .i64 qKind1), (.int .i64 qFrom1), (.int .i64 qTo1), (.int .u64 qNum1), (.string qText1), qKids1.v])) Try.results121 ⟨(RV.cellA (A := p2) (vs := [(.int .i64 qKind1), (.int .i64 qFrom1), (.int .i64 qTo1), (.int .u64 qNum1), (.string qText1), qKids1.v]) (by kernel_rfl) (Try.isAgg116 _) (Try.sizeOf116 _) rfl hv1), trivial⟩ (by kernel_rfl) ?_
  exact ⟨qKind1, qFrom1, qTo1, qNum1, qText1, qKids1, rfl, h⟩

def m_ref11_pair (aKind1 : Int) (aFrom1 : Int) (aTo1 : Int) (aNum1 : Int) (aText1 : ByteArray) (aKids1 : Sl) (bKind1 : Int) (bFrom1 : Int) (bTo1 : Int) (bNum1 : Int) (bText1 : ByteArray) (bKids1 : Sl) (w : World) (K : Int → Int → Int → Int → ByteArray → Sl → World → Prop) : Prop :=
  ∀ (p1 : Addr) (w1 : World), New w (.cells #[(.int .i64 aKind1), (.int .i64 aFrom1), (.int .i64 aTo1), (.int .u64 aNum1), (.string aText1), aKids1.v] 116) p1 w1 →
  ∀ (p2 : Addr) (w2 : World), New w1 (.cells #[(.int .i64 bKind1), (.int .i64 bFrom1), (.int .i64 bTo1), (.int .u64 bNum1), (.string bText1), bKids1.v] 116) p2 w2 →
  ∀ (p3 : Addr) (w3 : World), New w2 (.cells #[(.int .i64 0), (.int .i64 0), (.int .i64 0), (.int .u64 0), (.string (⟨#[]⟩ : ByteArray)), Sl.nil.v] 116) p3 w3 →
  ∃ vKind1 : Int, ∃ vFrom1 : Int, ∃ vTo1 : Int, ∃ vNum1 : Int, ∃ vText1 : ByteArray, ∃ vKids1 : Sl, Row w3 p1 [(.int .i64 vKind1), (.int .i64 vFrom1), (.int .i64 vTo1), (.int .u64 vNum1), (.string vText1), vKids1.v] ∧
  ∃ vKind2 : Int, ∃ vFrom2 : Int, ∃ vTo2 : Int, ∃ vNum2 : Int, ∃ vText2 : ByteArray, ∃ vKids2 : Sl, Row w3 p2 [(.int .i64 vKind2), (.int .i64 vFrom2), (.int .i64 vTo2), (.int .u64 vNum2), (.string vText2), vKids2.v] ∧
  ∀ (p4 : Addr) (w4 : World), New w3 (.cells #[(.int .i64 vKind1), (.int .i64 vFrom1), (.int .i64 vTo1), (.int .u64 vNum1), (.string vText1), vKids1.v, (.int .i64 vKind2), (.int .i64 vFrom2), (.int .i64 vTo2), (.int .u64 vNum2), (.string vText2), vKids2.v] 116) p4 w4 →
  (∀ j, j < 6 → CanW w4 (p3.add j)) ∧ ∀ w5 : World, w5 = storeRow w4 p3 [(.int .i64 4), (.int .i64 0), (.int .i64 0), (.int .u64 0), (.string (⟨#[]⟩ : ByteArray)), (Sl.mk (some p4) 2 2).v] →
  ∃ qKind1 : Int, ∃ qFrom1 : Int, ∃ qTo1 : Int, ∃ qNum1 : Int, ∃ qText1 : ByteArray, ∃ qKids1 : Sl, Row w5 p3 [(.int .i64 qKind1), (.int .i64 qFrom1), (.int .i64 qTo1), (.int .u64 qNum1), (.string qText1), qKids1.v] ∧
  K qKind1 qFrom1 qTo1 qNum1 qText1 qKids1 w5
set_option maxRecDepth 100000 in
set_option maxHeartbeats 4000000 in
theorem w_ref11_pair (aKind1 : Int) (aFrom1 : Int) (aTo1 : Int) (aNum1 : Int) (aText1 : ByteArray) (aKids1 : Sl) (bKind1 : Int) (bFrom1 : Int) (bTo1 : Int) (bNum1 : Int) (bText1 : ByteArray) (bKids1 : Sl) (w : World) (K : Int → Int → Int → Int → ByteArray → Sl → World → Prop) (h : m_ref11_pair aKind1 aFrom1 aTo1 aNum1 aText1 aKids1 bKind1 bFrom1 bTo1 bNum1 bText1 bKids1 w K) :
    Calls Try.prog 122 #[(.agg #[(.int .i64 aKind1), (.int .i64 aFrom1), (.int .i64 aTo1), (.int .u64 aNum1), (.string aText1), aKids1.v]), (.agg #[(.int .i64 bKind1), (.int .i64 bFrom1), (.int .i64 bTo1), (.int .u64 bNum1), (.string bText1), bKids1.v])] w (fun e w' => ∃ rKind1 : Int, ∃ rFrom1 : Int, ∃ rTo1 : Int, ∃ rNum1 : Int, ∃ rText1 : ByteArray, ∃ rKids1 : Sl, e = .returned (.agg #[(.int .i64 rKind1), (.int .i64 rFrom1), (.int .i64 rTo1), (.int .u64 rNum1), (.string rText1), rKids1.v]) ∧ K rKind1 rFrom1 rTo1 rNum1 rText1 rKids1 w') := by
  unfold m_ref11_pair at h
  refine calls_of_wpE (args := [(.agg #[(.int .i64 aKind1), (.int .i64 aFrom1), (.int .i64 aTo1), (.int .u64 aNum1), (.string aText1), aKids1.v]), (.agg #[(.int .i64 bKind1), (.int .i64 bFrom1), (.int .i64 bTo1), (.int .u64 bNum1), (.string bText1), bKids1.v])]) Try.func122 rfl Try.ntmps122 (Nat.le_of_ble_eq_true rfl) ?_
  refine wpE_seq ?_
  refine rg ?_
  refine st_new (O := (.cells #[(.int .i64 aKind1), (.int .i64 aFrom1), (.int .i64 aTo1), (.int .u64 aNum1), (.string aText1), aKids1.v] 116)) (fun p => .pointer (some p)) (want0 rfl) (x_box (cs := #[(.int .i64 aKind1), (.int .i64 aFrom1), (.int .i64 aTo1), (.int .u64 aNum1), (.string aText1), aKids1.v]) (by kernel_rfl)) ?_
  intro p1 w1 hn5
  replace h := h p1 w1 hn5
  refine st_new (O := (.cells #[(.int .i64 bKind1), (.int .i64 bFrom1), (.int .i64 bTo1), (.int .u64 bNum1), (.string bText1), bKids1.v] 116)) (fun p => .pointer (some p)) (want0 rfl) (x_box (cs := #[(.int .i64 bKind1), (.int .i64 bFrom1), (.int .i64 bTo1), (.int .u64 bNum1), (.string bText1), bKids1.v]) (by kernel_rfl)) ?_
  intro p2 w2 hn4
  replace h := h p2 w2 hn4
  refine st_new (O := (.cells #[(.int .i64 0), (.int .i64 0), (.int .i64 0), (.int .u64 0), (.string (⟨#[]⟩ : ByteArray)), Sl.nil.v] 116)) (fun p => .pointer (some p)) (want0 rfl) (x_alloc (Try.zeroValue116 _) rfl) ?_
  intro p3 w3 hn3
  replace h := h p3 w3 hn3
  refine wpL_nil ?_
  refine th_n ?_
  refine wpE_seq ?_
  refine rg ?_
  obtain ⟨vKind1, vFrom1, vTo1, vNum1, vText1, vKids1, hv3, h⟩ := h
  refine q2 (.agg #[(.int .i64 vKind1), (.int .i64 vFrom1), (.int .i64 vTo1), (.int .u64 vNum1), (.string vText1), vKids1.v]) (x_loadA (a := p1) (vs := [(.int .i64 vKind1), (.int .i64 vFrom1), (.int .i64 vTo1), (.int .u64 vNum1), (.string vText1), vKids1.v]) (by kernel_rfl) (Try.isAgg116 _) (Try.sizeOf116 _) rfl hv3) ?_
  obtain ⟨vKind2, vFrom2, vTo2, vNum2, vText2, vKids2, hv2, h⟩ := h
  refine q2 (.agg #[(.int .i64 vKind2), (.int .i64 vFrom2), (.int .i64 vTo2), (.int .u64 vNum2), (.string vText2), vKids2.v]) (x_loadA (a := p2) (vs := [(.int .i64 vKind2), (.int .i64 vFrom2), (.int .i64 vTo2), (.int .u64 vNum2), (.string vText2), vKids2.v]) (by kernel_rfl) (Try.isAgg116 _) (Try.sizeOf116 _) rfl hv2) ?_
  refine st_new (O := (.cells #[(.int .i64 vKind1), (.int .i64 vFrom1), (.int .i64 vTo1), (.int .u64 vNum1), (.string vText1), vKids1.v, (.int .i64 vKind2), (.int .i64 vFrom2), (.int .i64 vTo2), (.int .u64 vNum2), (.string vText2), vKids2.v] 116)) (fun p => (Sl.mk (some p) 2 2).v) (want0 rfl) (x_buildSlice (vs := #[(0, (.agg #[(.int .i64 vKind1), (.int .i64 vFrom1), (.int .i64 vTo1), (.int .u64 vNum1), (.string vText1), vKids1.v])), (1, (.agg #[(.int .i64 vKind2), (.int .i64 vFrom2), (.int .i64 vTo2), (.int .u64 vNum2), (.string vText2), vKids2.v]))]) (by kernel_rfl) (by kernel_rfl)) ?_
  intro p4 w4 hn2
  replace h := h p4 w4 hn2
  refine q0 (.agg #[(.int .i64 4), (.int .i64 0), (.int .i64 0), (.int .u64 0), (.string (⟨#[]⟩ : ByteArray)), (Sl.mk (some p4) 2 2).v]) ?_
  obtain ⟨hp1, h⟩ := h
  refine st_set (want0 rfl) (x_storeA (a := p3) (vs := [(.int .i64 4), (.int .i64 0), (.int .i64 0), (.int .u64 0), (.string (⟨#[]⟩ : ByteArray)), (Sl.mk (some p4) 2 2).v]) (by kernel_rfl) (by kernel_rfl) rfl (Try.sizeOf116 _) rfl hp1) ?_
  intro w5 hn1
  replace h := h w5 hn1
  refine wpL_nil ?_
  refine th_n ?_
  refine wpE_ret ?_
  obtain ⟨qKind1, qFrom1, qTo1, qNum1, qText1, qKids1, hv1, h⟩ := h
  refine resG (.inl rfl) (rs := [.cell 4 116]) (vs := [(.agg #[(.int .i64 qKind1), (.int .i64 qFrom1), (.int .i64 qTo1), (.int .u64 qNum1), (.string qText1), qKids1.v])]) (v := (.agg #[(.int .i64 qKind1), (.int .i64 qFrom1), (.int .i64 qTo1), (.int .u64 qNum1), (.string qText1), qKids1.v])) Try.results122 ⟨(RV.cellA (A := p3) (vs := [(.int .i64 qKind1), (.int .i64 qFrom1), (.int .i64 qTo1), (.int .u64 qNum1), (.string qText1), qKids1.v]) (by kernel_rfl) (Try.isAgg116 _) (Try.sizeOf116 _) rfl hv1), trivial⟩ (by kernel_rfl) ?_
  exact ⟨qKind1, qFrom1, qTo1, qNum1, qText1, qKids1, rfl, h⟩

def m_ref11_data (s1 : ByteArray) (w : World) (K : Int → Int → Int → Int → ByteArray → Sl → World → Prop) : Prop :=
  ∀ (p1 : Addr) (w1 : World), New w (.cells #[(.int .i64 0), (.int .i64 0), (.int .i64 0), (.int .u64 0), (.string (⟨#[]⟩ : ByteArray)), Sl.nil.v] 116) p1 w1 →
  (∀ j, j < 6 → CanW w1 (p1.add j)) ∧ ∀ w2 : World, w2 = storeRow w1 p1 [(.int .i64 3), (.int .i64 0), (.int .i64 0), (.int .u64 0), (.string s1), Sl.nil.v] →
  ∃ qKind1 : Int, ∃ qFrom1 : Int, ∃ qTo1 : Int, ∃ qNum1 : Int, ∃ qText1 : ByteArray, ∃ qKids1 : Sl, Row w2 p1 [(.int .i64 qKind1), (.int .i64 qFrom1), (.int .i64 qTo1), (.int .u64 qNum1), (.string qText1), qKids1.v] ∧
  K qKind1 qFrom1 qTo1 qNum1 qText1 qKids1 w2
set_option maxRecDepth 100000 in
set_option maxHeartbeats 4000000 in
theorem w_ref11_data (s1 : ByteArray) (w : World) (K : Int → Int → Int → Int → ByteArray → Sl → World → Prop) (h : m_ref11_data s1 w K) :
    Calls Try.prog 123 #[(.string s1)] w (fun e w' => ∃ rKind1 : Int, ∃ rFrom1 : Int, ∃ rTo1 : Int, ∃ rNum1 : Int, ∃ rText1 : ByteArray, ∃ rKids1 : Sl, e = .returned (.agg #[(.int .i64 rKind1), (.int .i64 rFrom1), (.int .i64 rTo1), (.int .u64 rNum1), (.string rText1), rKids1.v]) ∧ K rKind1 rFrom1 rTo1 rNum1 rText1 rKids1 w') := by
  unfold m_ref11_data at h
  refine calls_of_wpE (args := [(.string s1)]) Try.func123 rfl Try.ntmps123 (Nat.le_of_ble_eq_true rfl) ?_
  refine wpE_seq ?_
  refine rg ?_
  refine st_new (O := (.cells #[(.int .i64 0), (.int .i64 0), (.int .i64 0), (.int .u64 0), (.string (⟨#[]⟩ : ByteArray)), Sl.nil.v] 116)) (fun p => .pointer (some p)) (want0 rfl) (x_alloc (Try.zeroValue116 _) rfl) ?_
  intro p1 w1 hn2
  replace h := h p1 w1 hn2
  refine wpL_nil ?_
  refine th_n ?_
  refine wpE_seq ?_
  refine rg ?_
  refine q0 (.string s1) ?_
  refine q0 (.agg #[(.int .i64 3), (.int .i64 0), (.int .i64 0), (.int .u64 0), (.string s1), Sl.nil.v]) ?_
  obtain ⟨hp1, h⟩ := h
  refine st_set (want0 rfl) (x_storeA (a := p1) (vs := [(.int .i64 3), (.int .i64 0), (.int .i64 0), (.int .u64 0), (.string s1), Sl.nil.v]) (by kernel_rfl) (by kernel_rfl) rfl (Try.sizeOf116 _) rfl hp1) ?_
  intro w2 hn1
  replace h := h w2 hn1
  refine wpL_nil ?_
  refine th_n ?_
  refine wpE_ret ?_
  obtain ⟨qKind1, qFrom1, qTo1, qNum1, qText1, qKids1, hv1, h⟩ := h
  refine resG (.inl rfl) (rs := [.cell 2 116]) (vs := [(.agg #[(.int .i64 qKind1), (.int .i64 qFrom1), (.int .i64 qTo1), (.int .u64 qNum1), (.string qText1), qKids1.v])]) (v := (.agg #[(.int .i64 qKind1), (.int .i64 qFrom1), (.int .i64 qTo1), (.int .u64 qNum1), (.string qText1), qKids1.v])) Try.results123 ⟨(RV.cellA (A := p1) (vs := [(.int .i64 qKind1), (.int .i64 qFrom1), (.int .i64 qTo1), (.int .u64 qNum1), (.string qText1), qKids1.v]) (by kernel_rfl) (Try.isAgg116 _) (Try.sizeOf116 _) rfl hv1), trivial⟩ (by kernel_rfl) ?_
  exact ⟨qKind1, qFrom1, qTo1, qNum1, qText1, qKids1, rfl, h⟩

def m_ref11_number (n1 : Int) (w : World) (K : Int → Int → Int → Int → ByteArray → Sl → World → Prop) : Prop :=
  ∀ (p1 : Addr) (w1 : World), New w (.cells #[(.int .i64 0), (.int .i64 0), (.int .i64 0), (.int .u64 0), (.string (⟨#[]⟩ : ByteArray)), Sl.nil.v] 116) p1 w1 →
  (∀ j, j < 6 → CanW w1 (p1.add j)) ∧ ∀ w2 : World, w2 = storeRow w1 p1 [(.int .i64 2), (.int .i64 0), (.int .i64 0), (.int .u64 n1), (.string (⟨#[]⟩ : ByteArray)), Sl.nil.v] →
  ∃ qKind1 : Int, ∃ qFrom1 : Int, ∃ qTo1 : Int, ∃ qNum1 : Int, ∃ qText1 : ByteArray, ∃ qKids1 : Sl, Row w2 p1 [(.int .i64 qKind1), (.int .i64 qFrom1), (.int .i64 qTo1), (.int .u64 qNum1), (.string qText1), qKids1.v] ∧
  K qKind1 qFrom1 qTo1 qNum1 qText1 qKids1 w2
set_option maxRecDepth 100000 in
set_option maxHeartbeats 4000000 in
theorem w_ref11_number (n1 : Int) (w : World) (K : Int → Int → Int → Int → ByteArray → Sl → World → Prop) (h : m_ref11_number n1 w K) :
    Calls Try.prog 124 #[(.int .u64 n1)] w (fun e w' => ∃ rKind1 : Int, ∃ rFrom1 : Int, ∃ rTo1 : Int, ∃ rNum1 : Int, ∃ rText1 : ByteArray, ∃ rKids1 : Sl, e = .returned (.agg #[(.int .i64 rKind1), (.int .i64 rFrom1), (.int .i64 rTo1), (.int .u64 rNum1), (.string rText1), rKids1.v]) ∧ K rKind1 rFrom1 rTo1 rNum1 rText1 rKids1 w') := by
  unfold m_ref11_number at h
  refine calls_of_wpE (args := [(.int .u64 n1)]) Try.func124 rfl Try.ntmps124 (Nat.le_of_ble_eq_true rfl) ?_
  refine wpE_seq ?_
  refine rg ?_
  refine st_new (O := (.cells #[(.int .i64 0), (.int .i64 0), (.int .i64 0), (.int .u64 0), (.string (⟨#[]⟩ : ByteArray)), Sl.nil.v] 116)) (fun p => .pointer (some p)) (want0 rfl) (x_alloc (Try.zeroValue116 _) rfl) ?_
  intro p1 w1 hn2
  replace h := h p1 w1 hn2
  refine wpL_nil ?_
  refine th_n ?_
  refine wpE_seq ?_
  refine rg ?_
  refine q0 (.int .u64 n1) ?_
  refine q0 (.agg #[(.int .i64 2), (.int .i64 0), (.int .i64 0), (.int .u64 n1), (.string (⟨#[]⟩ : ByteArray)), Sl.nil.v]) ?_
  obtain ⟨hp1, h⟩ := h
  refine st_set (want0 rfl) (x_storeA (a := p1) (vs := [(.int .i64 2), (.int .i64 0), (.int .i64 0), (.int .u64 n1), (.string (⟨#[]⟩ : ByteArray)), Sl.nil.v]) (by kernel_rfl) (by kernel_rfl) rfl (Try.sizeOf116 _) rfl hp1) ?_
  intro w2 hn1
  replace h := h w2 hn1
  refine wpL_nil ?_
  refine th_n ?_
  refine wpE_ret ?_
  obtain ⟨qKind1, qFrom1, qTo1, qNum1, qText1, qKids1, hv1, h⟩ := h
  refine resG (.inl rfl) (rs := [.cell 2 116]) (vs := [(.agg #[(.int .i64 qKind1), (.int .i64 qFrom1), (.int .i64 qTo1), (.int .u64 qNum1), (.string qText1), qKids1.v])]) (v := (.agg #[(.int .i64 qKind1), (.int .i64 qFrom1), (.int .i64 qTo1), (.int .u64 qNum1), (.string qText1), qKids1.v])) Try.results124 ⟨(RV.cellA (A := p1) (vs := [(.int .i64 qKind1), (.int .i64 qFrom1), (.int .i64 qTo1), (.int .u64 qNum1), (.string qText1), qKids1.v]) (by kernel_rfl) (Try.isAgg116 _) (Try.sizeOf116 _) rfl hv1), trivial⟩ (by kernel_rfl) ?_
  exact ⟨qKind1, qFrom1, qTo1, qNum1, qText1, qKids1, rfl, h⟩

def m_letter_Read_j2 (p2 : Addr) (p3 : Addr) (p5 : Addr) (r3 : Int) (w : World) (K : Int → Int → Int → ByteArray → Bool → Bool → World → Prop) : Prop :=
  Calls Try.prog 168 #[(.pointer (some p3)), (.int .i64 r3), (.int .i64 2)] w (fun e w16 => ∃ rKind4 : Int, ∃ rFrom4 : Int, ∃ rTo2 : Int, ∃ rNum2 : Int, ∃ rText4 : ByteArray, ∃ rA2 : Int, ∃ rB2 : Int, e = .returned (.agg #[(.int .i64 rKind4), (.int .i64 rFrom4), (.int .i64 rTo2), (.int .u64 rNum2), (.string rText4), (.int .i64 rA2), (.int .i64 rB2)]) ∧ 
    (∀ j, j < 5 → CanW w16 (p5.add j)) ∧ ∀ w17 : World, w17 = storeRow w16 p5 [(.int .i64 7), (.int .i64 0), (.int .u64 rNum2), (.string (⟨#[]⟩ : ByteArray)), (.bool false)] →
    ∃ v6 : Bool, w17.cell? (p3.add 1) = some (.bool v6) ∧
    Br v6
      ((∀ j, j < 5 → CanW w17 (p2.add j)) ∧ ∀ w18 : World, w18 = storeRow w17 p2 [(.int .i64 0), (.int .i64 0), (.int .u64 0), (.string (⟨#[]⟩ : ByteArray)), (.bool false)] →
      ∃ qKind5 : Int, ∃ qFrom5 : Int, ∃ qC5 : Int, ∃ qText5 : ByteArray, ∃ qFake5 : Bool, Row w18 p2 [(.int .i64 qKind5), (.int .i64 qFrom5), (.int .u64 qC5), (.string qText5), (.bool qFake5)] ∧
      K qKind5 qFrom5 qC5 qText5 qFake5 false w18)
      (∃ vKind3 : Int, ∃ vFrom3 : Int, ∃ vC3 : Int, ∃ vText3 : ByteArray, ∃ vFake3 : Bool, Row w17 p5 [(.int .i64 vKind3), (.int .i64 vFrom3), (.int .u64 vC3), (.string vText3), (.bool vFake3)] ∧
      (∀ j, j < 5 → CanW w17 (p2.add j)) ∧ ∀ w19 : World, w19 = storeRow w17 p2 [(.int .i64 vKind3), (.int .i64 vFrom3), (.int .u64 vC3), (.string vText3), (.bool vFake3)] →
      ∃ qKind6 : Int, ∃ qFrom6 : Int, ∃ qC6 : Int, ∃ qText6 : ByteArray, ∃ qFake6 : Bool, Row w19 p2 [(.int .i64 qKind6), (.int .i64 qFrom6), (.int .u64 qC6), (.string qText6), (.bool qFake6)] ∧
      K qKind6 qFrom6 qC6 qText6 qFake6 true w19))
def m_letter_Read_j3 (p2 : Addr) (p3 : Addr) (p5 : Addr) (r3 : Int) (w : World) (K : Int → Int → Int → ByteArray → Bool → Bool → World → Prop) : Prop :=
  ∃ v7 : Bool, w.cell? (p3.add 1) = some (.bool v7) ∧
  Br v7
    (∃ v8 : Bool, w.cell? (p3.add 1) = some (.bool v8) ∧
    Br v8
      ((∀ j, j < 5 → CanW w (p2.add j)) ∧ ∀ w20 : World, w20 = storeRow w p2 [(.int .i64 0), (.int .i64 0), (.int .u64 0), (.string (⟨#[]⟩ : ByteArray)), (.bool false)] →
      ∃ qKind7 : Int, ∃ qFrom7 : Int, ∃ qC7 : Int, ∃ qText7 : ByteArray, ∃ qFake7 : Bool, Row w20 p2 [(.int .i64 qKind7), (.int .i64 qFrom7), (.int .u64 qC7), (.string qText7), (.bool qFake7)] ∧
      K qKind7 qFrom7 qC7 qText7 qFake7 false w20)
      (∃ vKind4 : Int, ∃ vFrom4 : Int, ∃ vC4 : Int, ∃ vText4 : ByteArray, ∃ vFake4 : Bool, Row w p5 [(.int .i64 vKind4), (.int .i64 vFrom4), (.int .u64 vC4), (.string vText4), (.bool vFake4)] ∧
      (∀ j, j < 5 → CanW w (p2.add j)) ∧ ∀ w21 : World, w21 = storeRow w p2 [(.int .i64 vKind4), (.int .i64 vFrom4), (.int .u64 vC4), (.string vText4), (.bool vFake4)] →
      ∃ qKind8 : Int, ∃ qFrom8 : Int, ∃ qC8 : Int, ∃ qText8 : ByteArray, ∃ qFake8 : Bool, Row w21 p2 [(.int .i64 qKind8), (.int .i64 qFrom8), (.int .u64 qC8), (.string qText8), (.bool qFake8)] ∧
      K qKind8 qFrom8 qC8 qText8 qFake8 true w21))
    (m_letter_Read_j2 p2 p3 p5 r3 w K)
def m_letter_Read_j1 (t1 : Int) (p2 : Addr) (p3 : Addr) (p5 : Addr) (x1 : Bool) (w : World) (K : Int → Int → Int → ByteArray → Bool → Bool → World → Prop) : Prop :=
  Br x1
    (Calls Try.prog 166 #[(.pointer (some p3)), (.int .i64 t1)] w (fun e w11 => ∃ rKind3 : Int, ∃ rFrom3 : Int, ∃ rC2 : Int, ∃ rText3 : ByteArray, ∃ rFake2 : Bool, e = .returned (.agg #[(.int .i64 rKind3), (.int .i64 rFrom3), (.int .u64 rC2), (.string rText3), (.bool rFake2)]) ∧ 
      (∀ j, j < 5 → CanW w11 (p5.add j)) ∧ ∀ w12 : World, w12 = storeRow w11 p5 [(.int .i64 rKind3), (.int .i64 rFrom3), (.int .u64 rC2), (.string rText3), (.bool rFake2)] →
      ∃ v5 : Bool, w12.cell? (p3.add 1) = some (.bool v5) ∧
      Br v5
        ((∀ j, j < 5 → CanW w12 (p2.add j)) ∧ ∀ w13 : World, w13 = storeRow w12 p2 [(.int .i64 0), (.int .i64 0), (.int .u64 0), (.string (⟨#[]⟩ : ByteArray)), (.bool false)] →
        ∃ qKind3 : Int, ∃ qFrom3 : Int, ∃ qC3 : Int, ∃ qText3 : ByteArray, ∃ qFake3 : Bool, Row w13 p2 [(.int .i64 qKind3), (.int .i64 qFrom3), (.int .u64 qC3), (.string qText3), (.bool qFake3)] ∧
        K qKind3 qFrom3 qC3 qText3 qFake3 false w13)
        (∃ vKind2 : Int, ∃ vFrom2 : Int, ∃ vC2 : Int, ∃ vText2 : ByteArray, ∃ vFake2 : Bool, Row w12 p5 [(.int .i64 vKind2), (.int .i64 vFrom2), (.int .u64 vC2), (.string vText2), (.bool vFake2)] ∧
        (∀ j, j < 5 → CanW w12 (p2.add j)) ∧ ∀ w14 : World, w14 = storeRow w12 p2 [(.int .i64 vKind2), (.int .i64 vFrom2), (.int .u64 vC2), (.string vText2), (.bool vFake2)] →
        ∃ qKind4 : Int, ∃ qFrom4 : Int, ∃ qC4 : Int, ∃ qText4 : ByteArray, ∃ qFake4 : Bool, Row w14 p2 [(.int .i64 qKind4), (.int .i64 qFrom4), (.int .u64 qC4), (.string qText4), (.bool qFake4)] ∧
        K qKind4 qFrom4 qC4 qText4 qFake4 true w14)))
    (Calls Try.prog 167 #[(.pointer (some p3)), (.int .i64 t1)] w (fun e w15 => ∃ r2 : ByteArray, ∃ r3 : Int, e = .returned (.tuple #[(.string r2), (.int .i64 r3)]) ∧ 
      ∃ v9 : Bool, w15.cell? (p3.add 1) = some (.bool v9) ∧
      Br v9
        (CanW w15 (p3.add 1) ∧ ∀ w22 : World, w22 = w15.setCell (p3.add 1) (.bool true) →
        m_letter_Read_j3 p2 p3 p5 r3 w22 K)
        (CanW w15 (p3.add 1) ∧ ∀ w23 : World, w23 = w15.setCell (p3.add 1) (.bool (!(decide (r2 = (⟨#[102, 117, 108, 108]⟩ : ByteArray))))) →
        m_letter_Read_j3 p2 p3 p5 r3 w23 K)))
def m_letter_Read (p1 : Option Addr) (t1 : Int) (w : World) (K : Int → Int → Int → ByteArray → Bool → Bool → World → Prop) : Prop :=
  ∀ (p2 : Addr) (w1 : World), New w (.cells #[(.int .i64 0), (.int .i64 0), (.int .u64 0), (.string (⟨#[]⟩ : ByteArray)), (.bool false)] 132) p2 w1 →
  ∀ (p3 : Addr) (w2 : World), New w1 (.cells #[(.pointer p1), (.bool false)] 264) p3 w2 →
  Calls Try.prog 91 #[(.pointer p1), (.int .i64 t1)] w2 (fun e w3 => ∃ rKind1 : Int, ∃ rFrom1 : Int, ∃ rTo1 : Int, ∃ rNum1 : Int, ∃ rText1 : ByteArray, ∃ rA1 : Int, ∃ rB1 : Int, ∃ r1 : Bool, e = .returned (.tuple #[(.agg #[(.int .i64 rKind1), (.int .i64 rFrom1), (.int .i64 rTo1), (.int .u64 rNum1), (.string rText1), (.int .i64 rA1), (.int .i64 rB1)]), (.bool r1)]) ∧ 
    ∀ (p4 : Addr) (w4 : World), New w3 (.cells #[(.int .i64 0), (.int .i64 0), (.int .i64 0), (.int .u64 0), (.string (⟨#[]⟩ : ByteArray)), (.int .i64 0), (.int .i64 0)] 93) p4 w4 →
    (∀ j, j < 7 → CanW w4 (p4.add j)) ∧ ∀ w5 : World, w5 = storeRow w4 p4 [(.int .i64 rKind1), (.int .i64 rFrom1), (.int .i64 rTo1), (.int .u64 rNum1), (.string rText1), (.int .i64 rA1), (.int .i64 rB1)] →
    ∀ (p5 : Addr) (w6 : World), New w5 (.cells #[(.int .i64 0), (.int .i64 0), (.int .u64 0), (.string (⟨#[]⟩ : ByteArray)), (.bool false)] 132) p5 w6 →
    ∃ v1 : Int, w6.cell? p4 = some (.int .i64 v1) ∧
    Br ((v1 : Int) == 7)
      (∃ v2 : Int, w6.cell? (p4.add 1) = some (.int .i64 v2) ∧
      ∃ v3 : Int, w6.cell? (p4.add 5) = some (.int .i64 v3) ∧
      Calls Try.prog 165 #[(.pointer (some p3)), (.int .i64 v2), (.int .i64 v3)] w6 (fun e w7 => ∃ rKind2 : Int, ∃ rFrom2 : Int, ∃ rC1 : Int, ∃ rText2 : ByteArray, ∃ rFake1 : Bool, e = .returned (.agg #[(.int .i64 rKind2), (.int .i64 rFrom2), (.int .u64 rC1), (.string rText2), (.bool rFake1)]) ∧ 
        (∀ j, j < 5 → CanW w7 (p5.add j)) ∧ ∀ w8 : World, w8 = storeRow w7 p5 [(.int .i64 rKind2), (.int .i64 rFrom2), (.int .u64 rC1), (.string rText2), (.bool rFake1)] →
        ∃ v4 : Bool, w8.cell? (p3.add 1) = some (.bool v4) ∧
        Br v4
          ((∀ j, j < 5 → CanW w8 (p2.add j)) ∧ ∀ w9 : World, w9 = storeRow w8 p2 [(.int .i64 0), (.int .i64 0), (.int .u64 0), (.string (⟨#[]⟩ : ByteArray)), (.bool false)] →
          ∃ qKind1 : Int, ∃ qFrom1 : Int, ∃ qC1 : Int, ∃ qText1 : ByteArray, ∃ qFake1 : Bool, Row w9 p2 [(.int .i64 qKind1), (.int .i64 qFrom1), (.int .u64 qC1), (.string qText1), (.bool qFake1)] ∧
          K qKind1 qFrom1 qC1 qText1 qFake1 false w9)
          (∃ vKind1 : Int, ∃ vFrom1 : Int, ∃ vC1 : Int, ∃ vText1 : ByteArray, ∃ vFake1 : Bool, Row w8 p5 [(.int .i64 vKind1), (.int .i64 vFrom1), (.int .u64 vC1), (.string vText1), (.bool vFake1)] ∧
          (∀ j, j < 5 → CanW w8 (p2.add j)) ∧ ∀ w10 : World, w10 = storeRow w8 p2 [(.int .i64 vKind1), (.int .i64 vFrom1), (.int .u64 vC1), (.string vText1), (.bool vFake1)] →
          ∃ qKind2 : Int, ∃ qFrom2 : Int, ∃ qC2 : Int, ∃ qText2 : ByteArray, ∃ qFake2 : Bool, Row w10 p2 [(.int .i64 qKind2), (.int .i64 qFrom2), (.int .u64 qC2), (.string qText2), (.bool qFake2)] ∧
          K qKind2 qFrom2 qC2 qText2 qFake2 true w10)))
      (Br ((v1 : Int) == 8)
        (m_letter_Read_j1 t1 p2 p3 p5 ((v1 : Int) == 8) w6 K)
        (m_letter_Read_j1 t1 p2 p3 p5 ((v1 : Int) == 9) w6 K)))
set_option maxRecDepth 100000 in
set_option maxHeartbeats 4000000 in
theorem w_letter_Read (p1 : Option Addr) (t1 : Int) (w : World) (K : Int → Int → Int → ByteArray → Bool → Bool → World → Prop) (h : m_letter_Read p1 t1 w K) :
    Calls Try.prog 130 #[(.pointer p1), (.int .i64 t1)] w (fun e w' => ∃ rKind5 : Int, ∃ rFrom5 : Int, ∃ rC3 : Int, ∃ rText5 : ByteArray, ∃ rFake3 : Bool, ∃ r4 : Bool, e = .returned (.tuple #[(.agg #[(.int .i64 rKind5), (.int .i64 rFrom5), (.int .u64 rC3), (.string rText5), (.bool rFake3)]), (.bool r4)]) ∧ K rKind5 rFrom5 rC3 rText5 rFake3 r4 w') := by
  unfold m_letter_Read at h
  refine calls_of_wpE (args := [(.pointer p1), (.int .i64 t1)]) Try.func130 rfl Try.ntmps130 (Nat.le_of_ble_eq_true rfl) ?_
  refine wpE_seq ?_
  refine rg ?_
  refine st_new (O := (.cells #[(.int .i64 0), (.int .i64 0), (.int .u64 0), (.string (⟨#[]⟩ : ByteArray)), (.bool false)] 132)) (fun p => .pointer (some p)) (want0 rfl) (x_alloc (Try.zeroValue132 _) rfl) ?_
  intro p2 w1 hn18
  replace h := h p2 w1 hn18
  refine q0 (.bool false) ?_
  refine wpL_nil ?_
  refine th_n ?_
  refine wpE_scope (fun _ _ _ h => h) ?_
  refine wpE_seq ?_
  refine rg ?_
  refine q0 (.pointer p1) ?_
  refine q0 (.agg #[(.pointer p1), (.bool false)]) ?_
  refine st_new (O := (.cells #[(.pointer p1), (.bool false)] 264)) (fun p => .pointer (some p)) (want0 rfl) (x_box (cs := #[(.pointer p1), (.bool false)]) (by kernel_rfl)) ?_
  intro p3 w2 hn17
  replace h := h p3 w2 hn17
  refine q0 (.pointer (some p3)) ?_
  refine wpL_nil ?_
  refine th_n ?_
  refine wpE_seq ?_
  refine rg ?_
  refine q0 (.pointer p1) ?_
  refine q0 (.int .i64 t1) ?_
  refine st_call (want0 rfl) (x_callE (args := #[(.pointer p1), (.int .i64 t1)]) Try.call91 (by kernel_rfl)) (h.mono ?_)
  clear h
  rintro e w3 ⟨rKind1, rFrom1, rTo1, rNum1, rText1, rA1, rB1, r1, rfl, h⟩
  refine ⟨_, rfl, ?_⟩
  refine q0 (.tuple #[(.agg #[(.int .i64 rKind1), (.int .i64 rFrom1), (.int .i64 rTo1), (.int .u64 rNum1), (.string rText1), (.int .i64 rA1), (.int .i64 rB1)]), (.bool r1)]) ?_
  refine q0 (.agg #[(.int .i64 rKind1), (.int .i64 rFrom1), (.int .i64 rTo1), (.int .u64 rNum1), (.string rText1), (.int .i64 rA1), (.int .i64 rB1)]) ?_
  refine q0 (.bool r1) ?_
  refine st_new (O := (.cells #[(.int .i64 0), (.int .i64 0), (.int .i64 0), (.int .u64 0), (.string (⟨#[]⟩ : ByteArray)), (.int .i64 0), (.int .i64 0)] 93)) (fun p => .pointer (some p)) (want0 rfl) (x_alloc (Try.zeroValue93 _) rfl) ?_
  intro p4 w4 hn16
  replace h := h p4 w4 hn16
  obtain ⟨hp1, h⟩ := h
  refine st_set (want0 rfl) (x_storeA (a := p4) (vs := [(.int .i64 rKind1), (.int .i64 rFrom1), (.int .i64 rTo1), (.int .u64 rNum1), (.string rText1), (.int .i64 rA1), (.int .i64 rB1)]) (by kernel_rfl) (by kernel_rfl) rfl (Try.sizeOf93 _) rfl hp1) ?_
  intro w5 hn1
  replace h := h w5 hn1
  refine q0 (.bool r1) ?_
  refine wpL_nil ?_
  refine th_n ?_
  refine wpE_seq ?_
  refine rg ?_
  refine st_new (O := (.cells #[(.int .i64 0), (.int .i64 0), (.int .u64 0), (.string (⟨#[]⟩ : ByteArray)), (.bool false)] 132)) (fun p => .pointer (some p)) (want0 rfl) (x_alloc (Try.zeroValue132 _) rfl) ?_
  intro p5 w6 hn15
  replace h := h p5 w6 hn15
  refine wpL_nil ?_
  refine th_n ?_
  refine wpE_seq ?_
  refine wpE_label ?_
  refine th_n ?_
  refine wpE_seq ?_
  refine wpE_seq ?_
  refine rg ?_
  refine q0 (.pointer (some p4)) ?_
  obtain ⟨v1, hv21, h⟩ := h
  refine q2 (.int .i64 v1) (x_load (a := p4) (by kernel_rfl) (Try.isAgg3 _) hv21) ?_
  refine wpL_nil ?_
  refine th_n ?_
  refine wpE_block ?_
  refine wpE_seq ?_
  refine rg ?_
  refine q0 (.bool ((v1 : Int) == 7)) ?_
  refine q0 (.bool ((v1 : Int) == 7)) ?_
  refine wpL_nil ?_
  refine th_n ?_
  refine wpE_cond (t := ((v1 : Int) == 7)) (by kernel_rfl) (fun hc1 => ?_) (fun hc1 => ?_)
  · replace h := h.1 hc1
    refine rg ?_
    refine q0 (.pointer (some p3)) ?_
    refine q0 (.pointer (some (p4.add 1))) ?_
    obtain ⟨v2, hv6, h⟩ := h
    refine q2 (.int .i64 v2) (x_load (a := (p4.add 1)) (by kernel_rfl) (Try.isAgg3 _) hv6) ?_
    refine q0 (.pointer (some (p4.add 5))) ?_
    obtain ⟨v3, hv5, h⟩ := h
    refine q2 (.int .i64 v3) (x_load (a := (p4.add 5)) (by kernel_rfl) (Try.isAgg41 _) hv5) ?_
    refine st_call (want0 rfl) (x_callE (args := #[(.pointer (some p3)), (.int .i64 v2), (.int .i64 v3)]) Try.call165 (by kernel_rfl)) (h.mono ?_)
    clear h
    rintro e w7 ⟨rKind2, rFrom2, rC1, rText2, rFake1, rfl, h⟩
    refine ⟨_, rfl, ?_⟩
    obtain ⟨hp2, h⟩ := h
    refine st_set (want0 rfl) (x_storeA (a := p5) (vs := [(.int .i64 rKind2), (.int .i64 rFrom2), (.int .u64 rC1), (.string rText2), (.bool rFake1)]) (by kernel_rfl) (by kernel_rfl) rfl (Try.sizeOf132 _) rfl hp2) ?_
    intro w8 hn2
    replace h := h w8 hn2
    refine wpL_nil ?_
    refine bl_n ?_
    refine th_n ?_
    refine wpE_seq ?_
    refine wpE_seq ?_
    refine rg ?_
    refine q0 (.pointer (some p3)) ?_
    refine q0 (.pointer (some p3)) ?_
    refine q0 (.pointer (some (p3.add 1))) ?_
    obtain ⟨v4, hv4, h⟩ := h
    refine q2 (.bool v4) (x_load (a := (p3.add 1)) (by kernel_rfl) (Try.isAgg4 _) hv4) ?_
    refine wpL_nil ?_
    refine th_n ?_
    refine wpE_cond (t := v4) (by kernel_rfl) (fun hc2 => ?_) (fun hc2 => ?_)
    · replace h := h.1 hc2
      refine wpE_seq ?_
      refine rg ?_
      refine q0 (.agg #[(.int .i64 0), (.int .i64 0), (.int .u64 0), (.string (⟨#[]⟩ : ByteArray)), (.bool false)]) ?_
      obtain ⟨hp3, h⟩ := h
      refine st_set (want0 rfl) (x_storeA (a := p2) (vs := [(.int .i64 0), (.int .i64 0), (.int .u64 0), (.string (⟨#[]⟩ : ByteArray)), (.bool false)]) (by kernel_rfl) (by kernel_rfl) rfl (Try.sizeOf132 _) rfl hp3) ?_
      intro w9 hn3
      replace h := h w9 hn3
      refine q0 (.bool false) ?_
      refine wpL_nil ?_
      refine th_n ?_
      refine wpE_ret ?_
      refine th_r ?_
      obtain ⟨qKind1, qFrom1, qC1, qText1, qFake1, hv1, h⟩ := h
      refine resG (.inl rfl) (rs := [.cell 4 132, .tmp 5]) (vs := [(.agg #[(.int .i64 qKind1), (.int .i64 qFrom1), (.int .u64 qC1), (.string qText1), (.bool qFake1)]), (.bool false)]) (v := (.tuple #[(.agg #[(.int .i64 qKind1), (.int .i64 qFrom1), (.int .u64 qC1), (.string qText1), (.bool qFake1)]), (.bool false)])) Try.results130 ⟨(RV.cellA (A := p2) (vs := [(.int .i64 qKind1), (.int .i64 qFrom1), (.int .u64 qC1), (.string qText1), (.bool qFake1)]) (by kernel_rfl) (Try.isAgg132 _) (Try.sizeOf132 _) rfl hv1), (rvT (by kernel_rfl)), trivial⟩ (by kernel_rfl) ?_
      exact ⟨qKind1, qFrom1, qC1, qText1, qFake1, false, rfl, h⟩
    · replace h := h.2 hc2
      refine wpE_skip ?_
      refine th_n ?_
      refine wpE_seq ?_
      refine rg ?_
      obtain ⟨vKind1, vFrom1, vC1, vText1, vFake1, hv3, h⟩ := h
      refine q2 (.agg #[(.int .i64 vKind1), (.int .i64 vFrom1), (.int .u64 vC1), (.string vText1), (.bool vFake1)]) (x_loadA (a := p5) (vs := [(.int .i64 vKind1), (.int .i64 vFrom1), (.int .u64 vC1), (.string vText1), (.bool vFake1)]) (by kernel_rfl) (Try.isAgg132 _) (Try.sizeOf132 _) rfl hv3) ?_
      obtain ⟨hp4, h⟩ := h
      refine st_set (want0 rfl) (x_storeA (a := p2) (vs := [(.int .i64 vKind1), (.int .i64 vFrom1), (.int .u64 vC1), (.string vText1), (.bool vFake1)]) (by kernel_rfl) (by kernel_rfl) rfl (Try.sizeOf132 _) rfl hp4) ?_
      intro w10 hn4
      replace h := h w10 hn4
      refine q0 (.bool true) ?_
      refine wpL_nil ?_
      refine th_n ?_
      refine wpE_ret ?_
      obtain ⟨qKind2, qFrom2, qC2, qText2, qFake2, hv2, h⟩ := h
      refine resG (.inl rfl) (rs := [.cell 4 132, .tmp 5]) (vs := [(.agg #[(.int .i64 qKind2), (.int .i64 qFrom2), (.int .u64 qC2), (.string qText2), (.bool qFake2)]), (.bool true)]) (v := (.tuple #[(.agg #[(.int .i64 qKind2), (.int .i64 qFrom2), (.int .u64 qC2), (.string qText2), (.bool qFake2)]), (.bool true)])) Try.results130 ⟨(RV.cellA (A := p2) (vs := [(.int .i64 qKind2), (.int .i64 qFrom2), (.int .u64 qC2), (.string qText2), (.bool qFake2)]) (by kernel_rfl) (Try.isAgg132 _) (Try.sizeOf132 _) rfl hv2), (rvT (by kernel_rfl)), trivial⟩ (by kernel_rfl) ?_
      exact ⟨qKind2, qFrom2, qC2, qText2, qFake2, true, rfl, h⟩
  · replace h := h.2 hc1
    refine wpE_join (fun ρ w => ∃ x1 : Bool, Has ρ [(1, (.int .i64 t1)), (4, (.pointer (some p2))), (6, (.pointer (some p3))), (9, (.pointer (some p5))), (57, (.bool x1))] ∧ m_letter_Read_j1 t1 p2 p3 p5 x1 w K) ?_ ?_
    · rintro ρ w ⟨x1, hH, h⟩
      unfold m_letter_Read_j1 at h
      refine wpE_has hH ?_
      clear hH
      refine wpE_cond (t := x1) (by kernel_rfl) (fun hc3 => ?_) (fun hc3 => ?_)
      · replace h := h.1 hc3
        refine rg ?_
        refine q0 (.pointer (some p3)) ?_
        refine q0 (.int .i64 t1) ?_
        refine st_call (want0 rfl) (x_callE (args := #[(.pointer (some p3)), (.int .i64 t1)]) Try.call166 (by kernel_rfl)) (h.mono ?_)
        clear h
        rintro e w11 ⟨rKind3, rFrom3, rC2, rText3, rFake2, rfl, h⟩
        refine ⟨_, rfl, ?_⟩
        obtain ⟨hp5, h⟩ := h
        refine st_set (want0 rfl) (x_storeA (a := p5) (vs := [(.int .i64 rKind3), (.int .i64 rFrom3), (.int .u64 rC2), (.string rText3), (.bool rFake2)]) (by kernel_rfl) (by kernel_rfl) rfl (Try.sizeOf132 _) rfl hp5) ?_
        intro w12 hn5
        replace h := h w12 hn5
        refine wpL_nil ?_
        refine bl_n ?_
        refine th_n ?_
        refine wpE_seq ?_
        refine wpE_seq ?_
        refine rg ?_
        refine q0 (.pointer (some p3)) ?_
        refine q0 (.pointer (some p3)) ?_
        refine q0 (.pointer (some (p3.add 1))) ?_
        obtain ⟨v5, hv10, h⟩ := h
        refine q2 (.bool v5) (x_load (a := (p3.add 1)) (by kernel_rfl) (Try.isAgg4 _) hv10) ?_
        refine wpL_nil ?_
        refine th_n ?_
        refine wpE_cond (t := v5) (by kernel_rfl) (fun hc4 => ?_) (fun hc4 => ?_)
        · replace h := h.1 hc4
          refine wpE_seq ?_
          refine rg ?_
          refine q0 (.agg #[(.int .i64 0), (.int .i64 0), (.int .u64 0), (.string (⟨#[]⟩ : ByteArray)), (.bool false)]) ?_
          obtain ⟨hp6, h⟩ := h
          refine st_set (want0 rfl) (x_storeA (a := p2) (vs := [(.int .i64 0), (.int .i64 0), (.int .u64 0), (.string (⟨#[]⟩ : ByteArray)), (.bool false)]) (by kernel_rfl) (by kernel_rfl) rfl (Try.sizeOf132 _) rfl hp6) ?_
          intro w13 hn6
          replace h := h w13 hn6
          refine q0 (.bool false) ?_
          refine wpL_nil ?_
          refine th_n ?_
          refine wpE_ret ?_
          refine th_r ?_
          obtain ⟨qKind3, qFrom3, qC3, qText3, qFake3, hv7, h⟩ := h
          refine resG (.inl rfl) (rs := [.cell 4 132, .tmp 5]) (vs := [(.agg #[(.int .i64 qKind3), (.int .i64 qFrom3), (.int .u64 qC3), (.string qText3), (.bool qFake3)]), (.bool false)]) (v := (.tuple #[(.agg #[(.int .i64 qKind3), (.int .i64 qFrom3), (.int .u64 qC3), (.string qText3), (.bool qFake3)]), (.bool false)])) Try.results130 ⟨(RV.cellA (A := p2) (vs := [(.int .i64 qKind3), (.int .i64 qFrom3), (.int .u64 qC3), (.string qText3), (.bool qFake3)]) (by kernel_rfl) (Try.isAgg132 _) (Try.sizeOf132 _) rfl hv7), (rvT (by kernel_rfl)), trivial⟩ (by kernel_rfl) ?_
          exact ⟨qKind3, qFrom3, qC3, qText3, qFake3, false, rfl, h⟩
        · replace h := h.2 hc4
          refine wpE_skip ?_
          refine th_n ?_
          refine wpE_seq ?_
          refine rg ?_
          obtain ⟨vKind2, vFrom2, vC2, vText2, vFake2, hv9, h⟩ := h
          refine q2 (.agg #[(.int .i64 vKind2), (.int .i64 vFrom2), (.int .u64 vC2), (.string vText2), (.bool vFake2)]) (x_loadA (a := p5) (vs := [(.int .i64 vKind2), (.int .i64 vFrom2), (.int .u64 vC2), (.string vText2), (.bool vFake2)]) (by kernel_rfl) (Try.isAgg132 _) (Try.sizeOf132 _) rfl hv9) ?_
          obtain ⟨hp7, h⟩ := h
          refine st_set (want0 rfl) (x_storeA (a := p2) (vs := [(.int .i64 vKind2), (.int .i64 vFrom2), (.int .u64 vC2), (.string vText2), (.bool vFake2)]) (by kernel_rfl) (by kernel_rfl) rfl (Try.sizeOf132 _) rfl hp7) ?_
          intro w14 hn7
          replace h := h w14 hn7
          refine q0 (.bool true) ?_
          refine wpL_nil ?_
          refine th_n ?_
          refine wpE_ret ?_
          obtain ⟨qKind4, qFrom4, qC4, qText4, qFake4, hv8, h⟩ := h
          refine resG (.inl rfl) (rs := [.cell 4 132, .tmp 5]) (vs := [(.agg #[(.int .i64 qKind4), (.int .i64 qFrom4), (.int .u64 qC4), (.string qText4), (.bool qFake4)]), (.bool true)]) (v := (.tuple #[(.agg #[(.int .i64 qKind4), (.int .i64 qFrom4), (.int .u64 qC4), (.string qText4), (.bool qFake4)]), (.bool true)])) Try.results130 ⟨(RV.cellA (A := p2) (vs := [(.int .i64 qKind4), (.int .i64 qFrom4), (.int .u64 qC4), (.string qText4), (.bool qFake4)]) (by kernel_rfl) (Try.isAgg132 _) (Try.sizeOf132 _) rfl hv8), (rvT (by kernel_rfl)), trivial⟩ (by kernel_rfl) ?_
          exact ⟨qKind4, qFrom4, qC4, qText4, qFake4, true, rfl, h⟩
      · replace h := h.2 hc3
        refine wpE_seq ?_
        refine rg ?_
        refine q0 (.pointer (some p3)) ?_
        refine q0 (.int .i64 t1) ?_
        refine st_call (want0 rfl) (x_callE (args := #[(.pointer (some p3)), (.int .i64 t1)]) Try.call167 (by kernel_rfl)) (h.mono ?_)
        clear h
        rintro e w15 ⟨r2, r3, rfl, h⟩
        refine ⟨_, rfl, ?_⟩
        refine q0 (.tuple #[(.string r2), (.int .i64 r3)]) ?_
        refine q0 (.string r2) ?_
        refine q0 (.int .i64 r3) ?_
        refine q0 (.string r2) ?_
        refine q0 (.int .i64 r3) ?_
        refine wpL_nil ?_
        refine th_n ?_
        refine wpE_join (fun ρ w => Has ρ [(4, (.pointer (some p2))), (6, (.pointer (some p3))), (9, (.pointer (some p5))), (11, (.int .i64 r3))] ∧ m_letter_Read_j2 p2 p3 p5 r3 w K) ?_ ?_
        · rintro ρ w ⟨hH, h⟩
          unfold m_letter_Read_j2 at h
          refine wpE_has hH ?_
          clear hH
          refine rg ?_
          refine q0 (.pointer (some p3)) ?_
          refine q0 (.int .i64 r3) ?_
          refine st_call (want0 rfl) (x_callE (args := #[(.pointer (some p3)), (.int .i64 r3), (.int .i64 2)]) Try.call168 (by kernel_rfl)) (h.mono ?_)
          clear h
          rintro e w16 ⟨rKind4, rFrom4, rTo2, rNum2, rText4, rA2, rB2, rfl, h⟩
          refine ⟨_, rfl, ?_⟩
          refine q0 (.int .u64 rNum2) ?_
          refine q0 (.agg #[(.int .i64 7), (.int .i64 0), (.int .u64 rNum2), (.string (⟨#[]⟩ : ByteArray)), (.bool false)]) ?_
          obtain ⟨hp8, h⟩ := h
          refine st_set (want0 rfl) (x_storeA (a := p5) (vs := [(.int .i64 7), (.int .i64 0), (.int .u64 rNum2), (.string (⟨#[]⟩ : ByteArray)), (.bool false)]) (by kernel_rfl) (by kernel_rfl) rfl (Try.sizeOf132 _) rfl hp8) ?_
          intro w17 hn8
          replace h := h w17 hn8
          refine wpL_nil ?_
          refine bl_n ?_
          refine th_n ?_
          refine wpE_seq ?_
          refine wpE_seq ?_
          refine rg ?_
          refine q0 (.pointer (some p3)) ?_
          refine q0 (.pointer (some p3)) ?_
          refine q0 (.pointer (some (p3.add 1))) ?_
          obtain ⟨v6, hv14, h⟩ := h
          refine q2 (.bool v6) (x_load (a := (p3.add 1)) (by kernel_rfl) (Try.isAgg4 _) hv14) ?_
          refine wpL_nil ?_
          refine th_n ?_
          refine wpE_cond (t := v6) (by kernel_rfl) (fun hc5 => ?_) (fun hc5 => ?_)
          · replace h := h.1 hc5
            refine wpE_seq ?_
            refine rg ?_
            refine q0 (.agg #[(.int .i64 0), (.int .i64 0), (.int .u64 0), (.string (⟨#[]⟩ : ByteArray)), (.bool false)]) ?_
            obtain ⟨hp9, h⟩ := h
            refine st_set (want0 rfl) (x_storeA (a := p2) (vs := [(.int .i64 0), (.int .i64 0), (.int .u64 0), (.string (⟨#[]⟩ : ByteArray)), (.bool false)]) (by kernel_rfl) (by kernel_rfl) rfl (Try.sizeOf132 _) rfl hp9) ?_
            intro w18 hn9
            replace h := h w18 hn9
            refine q0 (.bool false) ?_
            refine wpL_nil ?_
            refine th_n ?_
            refine wpE_ret ?_
            refine th_r ?_
            obtain ⟨qKind5, qFrom5, qC5, qText5, qFake5, hv11, h⟩ := h
            refine resG (.inl rfl) (rs := [.cell 4 132, .tmp 5]) (vs := [(.agg #[(.int .i64 qKind5), (.int .i64 qFrom5), (.int .u64 qC5), (.string qText5), (.bool qFake5)]), (.bool false)]) (v := (.tuple #[(.agg #[(.int .i64 qKind5), (.int .i64 qFrom5), (.int .u64 qC5), (.string qText5), (.bool qFake5)]), (.bool false)])) Try.results130 ⟨(RV.cellA (A := p2) (vs := [(.int .i64 qKind5), (.int .i64 qFrom5), (.int .u64 qC5), (.string qText5), (.bool qFake5)]) (by kernel_rfl) (Try.isAgg132 _) (Try.sizeOf132 _) rfl hv11), (rvT (by kernel_rfl)), trivial⟩ (by kernel_rfl) ?_
            exact ⟨qKind5, qFrom5, qC5, qText5, qFake5, false, rfl, h⟩
          · replace h := h.2 hc5
            refine wpE_skip ?_
            refine th_n ?_
            refine wpE_seq ?_
            refine rg ?_
            obtain ⟨vKind3, vFrom3, vC3, vText3, vFake3, hv13, h⟩ := h
            refine q2 (.agg #[(.int .i64 vKind3), (.int .i64 vFrom3), (.int .u64 vC3), (.string vText3), (.bool vFake3)]) (x_loadA (a := p5) (vs := [(.int .i64 vKind3), (.int .i64 vFrom3), (.int .u64 vC3), (.string vText3), (.bool vFake3)]) (by kernel_rfl) (Try.isAgg132 _) (Try.sizeOf132 _) rfl hv13) ?_
            obtain ⟨hp10, h⟩ := h
            refine st_set (want0 rfl) (x_storeA (a := p2) (vs := [(.int .i64 vKind3), (.int .i64 vFrom3), (.int .u64 vC3), (.string vText3), (.bool vFake3)]) (by kernel_rfl) (by kernel_rfl) rfl (Try.sizeOf132 _) rfl hp10) ?_
            intro w19 hn10
            replace h := h w19 hn10
            refine q0 (.bool true) ?_
            refine wpL_nil ?_
            refine th_n ?_
            refine wpE_ret ?_
            obtain ⟨qKind6, qFrom6, qC6, qText6, qFake6, hv12, h⟩ := h
            refine resG (.inl rfl) (rs := [.cell 4 132, .tmp 5]) (vs := [(.agg #[(.int .i64 qKind6), (.int .i64 qFrom6), (.int .u64 qC6), (.string qText6), (.bool qFake6)]), (.bool true)]) (v := (.tuple #[(.agg #[(.int .i64 qKind6), (.int .i64 qFrom6), (.int .u64 qC6), (.string qText6), (.bool qFake6)]), (.bool true)])) Try.results130 ⟨(RV.cellA (A := p2) (vs := [(.int .i64 qKind6), (.int .i64 qFrom6), (.int .u64 qC6), (.string qText6), (.bool qFake6)]) (by kernel_rfl) (Try.isAgg132 _) (Try.sizeOf132 _) rfl hv12), (rvT (by kernel_rfl)), trivial⟩ (by kernel_rfl) ?_
            exact ⟨qKind6, qFrom6, qC6, qText6, qFake6, true, rfl, h⟩
        · skip
          refine wpE_join (fun ρ w => Has ρ [(4, (.pointer (some p2))), (6, (.pointer (some p3))), (9, (.pointer (some p5))), (11, (.int .i64 r3))] ∧ m_letter_Read_j3 p2 p3 p5 r3 w K) ?_ ?_
          · rintro ρ w ⟨hH, h⟩
            unfold m_letter_Read_j3 at h
            refine wpE_has hH ?_
            clear hH
            refine wpE_seq ?_
            refine rg ?_
            refine q0 (.pointer (some p3)) ?_
            refine q0 (.pointer (some p3)) ?_
            refine q0 (.pointer (some (p3.add 1))) ?_
            obtain ⟨v7, hv19, h⟩ := h
            refine q2 (.bool v7) (x_load (a := (p3.add 1)) (by kernel_rfl) (Try.isAgg4 _) hv19) ?_
            refine wpL_nil ?_
            refine th_n ?_
            refine wpE_cond (t := v7) (by kernel_rfl) (fun hc6 => ?_) (fun hc6 => ?_)
            · replace h := h.1 hc6
              refine wpE_exit ?_
              refine th_x ?_
              refine bl_eq ?_
              refine th_n ?_
              refine wpE_seq ?_
              refine wpE_seq ?_
              refine rg ?_
              refine q0 (.pointer (some p3)) ?_
              refine q0 (.pointer (some p3)) ?_
              refine q0 (.pointer (some (p3.add 1))) ?_
              obtain ⟨v8, hv18, h⟩ := h
              refine q2 (.bool v8) (x_load (a := (p3.add 1)) (by kernel_rfl) (Try.isAgg4 _) hv18) ?_
              refine wpL_nil ?_
              refine th_n ?_
              refine wpE_cond (t := v8) (by kernel_rfl) (fun hc7 => ?_) (fun hc7 => ?_)
              · replace h := h.1 hc7
                refine wpE_seq ?_
                refine rg ?_
                refine q0 (.agg #[(.int .i64 0), (.int .i64 0), (.int .u64 0), (.string (⟨#[]⟩ : ByteArray)), (.bool false)]) ?_
                obtain ⟨hp11, h⟩ := h
                refine st_set (want0 rfl) (x_storeA (a := p2) (vs := [(.int .i64 0), (.int .i64 0), (.int .u64 0), (.string (⟨#[]⟩ : ByteArray)), (.bool false)]) (by kernel_rfl) (by kernel_rfl) rfl (Try.sizeOf132 _) rfl hp11) ?_
                intro w20 hn11
                replace h := h w20 hn11
                refine q0 (.bool false) ?_
                refine wpL_nil ?_
                refine th_n ?_
                refine wpE_ret ?_
                refine th_r ?_
                obtain ⟨qKind7, qFrom7, qC7, qText7, qFake7, hv15, h⟩ := h
                refine resG (.inl rfl) (rs := [.cell 4 132, .tmp 5]) (vs := [(.agg #[(.int .i64 qKind7), (.int .i64 qFrom7), (.int .u64 qC7), (.string qText7), (.bool qFake7)]), (.bool false)]) (v := (.tuple #[(.agg #[(.int .i64 qKind7), (.int .i64 qFrom7), (.int .u64 qC7), (.string qText7), (.bool qFake7)]), (.bool false)])) Try.results130 ⟨(RV.cellA (A := p2) (vs := [(.int .i64 qKind7), (.int .i64 qFrom7), (.int .u64 qC7), (.string qText7), (.bool qFake7)]) (by kernel_rfl) (Try.isAgg132 _) (Try.sizeOf132 _) rfl hv15), (rvT (by kernel_rfl)), trivial⟩ (by kernel_rfl) ?_
                exact ⟨qKind7, qFrom7, qC7, qText7, qFake7, false, rfl, h⟩
              · replace h := h.2 hc7
                refine wpE_skip ?_
                refine th_n ?_
                refine wpE_seq ?_
                refine rg ?_
                obtain ⟨vKind4, vFrom4, vC4, vText4, vFake4, hv17, h⟩ := h
                refine q2 (.agg #[(.int .i64 vKind4), (.int .i64 vFrom4), (.int .u64 vC4), (.string vText4), (.bool vFake4)]) (x_loadA (a := p5) (vs := [(.int .i64 vKind4), (.int .i64 vFrom4), (.int .u64 vC4), (.string vText4), (.bool vFake4)]) (by kernel_rfl) (Try.isAgg132 _) (Try.sizeOf132 _) rfl hv17) ?_
                obtain ⟨hp12, h⟩ := h
                refine st_set (want0 rfl) (x_storeA (a := p2) (vs := [(.int .i64 vKind4), (.int .i64 vFrom4), (.int .u64 vC4), (.string vText4), (.bool vFake4)]) (by kernel_rfl) (by kernel_rfl) rfl (Try.sizeOf132 _) rfl hp12) ?_
                intro w21 hn12
                replace h := h w21 hn12
                refine q0 (.bool true) ?_
                refine wpL_nil ?_
                refine th_n ?_
                refine wpE_ret ?_
                obtain ⟨qKind8, qFrom8, qC8, qText8, qFake8, hv16, h⟩ := h
                refine resG (.inl rfl) (rs := [.cell 4 132, .tmp 5]) (vs := [(.agg #[(.int .i64 qKind8), (.int .i64 qFrom8), (.int .u64 qC8), (.string qText8), (.bool qFake8)]), (.bool true)]) (v := (.tuple #[(.agg #[(.int .i64 qKind8), (.int .i64 qFrom8), (.int .u64 qC8), (.string qText8), (.bool qFake8)]), (.bool true)])) Try.results130 ⟨(RV.cellA (A := p2) (vs := [(.int .i64 qKind8), (.int .i64 qFrom8), (.int .u64 qC8), (.string qText8), (.bool qFake8)]) (by kernel_rfl) (Try.isAgg132 _) (Try.sizeOf132 _) rfl hv16), (rvT (by kernel_rfl)), trivial⟩ (by kernel_rfl) ?_
                exact ⟨qKind8, qFrom8, qC8, qText8, qFake8, true, rfl, h⟩
            · replace h := h.2 hc6
              refine wpE_skip ?_
              refine th_n ?_
              exact ⟨Has.mk (by kernel_rfl), h⟩
          · skip
            refine rg ?_
            refine q0 (.pointer (some p3)) ?_
            refine q0 (.pointer (some p3)) ?_
            refine q0 (.pointer (some p3)) ?_
            refine q0 (.pointer (some (p3.add 1))) ?_
            obtain ⟨v9, hv20, h⟩ := h
            refine q2 (.bool v9) (x_load (a := (p3.add 1)) (by kernel_rfl) (Try.isAgg4 _) hv20) ?_
            refine q0 (.bool v9) ?_
            rcases Bool.eq_false_or_eq_true v9 with hg1 | hg1
            · replace h := h.1 hg1
              refine st_not (unwant rfl (yD 34 hg1) rfl) ?_
              refine st_not (unwant rfl (yD 34 hg1) rfl) ?_
              refine q2 (.bool true) (x_pickT (b := v9) (by kernel_rfl) hg1 (by kernel_rfl)) ?_
              refine q0 (.pointer (some p3)) ?_
              refine q0 (.pointer (some (p3.add 1))) ?_
              obtain ⟨hp13, h⟩ := h
              refine st_set (want0 rfl) (x_store (a := (p3.add 1)) (v := (.bool true)) (by kernel_rfl) (by kernel_rfl) rfl (Try.sizeOf4 _) hp13) ?_
              intro w22 hn13
              replace h := h w22 hn13
              refine wpL_nil ?_
              refine th_n ?_
              exact ⟨Has.mk (by kernel_rfl), h⟩
            · replace h := h.2 hg1
              refine q1 (.string r2) (want1 rfl (yD 34 hg1)) ?_
              refine stp (v := (.bool (!(decide (r2 = (⟨#[102, 117, 108, 108]⟩ : ByteArray)))))) (want1 rfl (yD 34 hg1)) (x_strneq (by kernel_rfl) (by kernel_rfl)) ?_
              refine q2 (.bool (!(decide (r2 = (⟨#[102, 117, 108, 108]⟩ : ByteArray))))) (x_pickF (b := v9) (by kernel_rfl) hg1 (by kernel_rfl)) ?_
              refine q0 (.pointer (some p3)) ?_
              refine q0 (.pointer (some (p3.add 1))) ?_
              obtain ⟨hp14, h⟩ := h
              refine st_set (want0 rfl) (x_store (a := (p3.add 1)) (v := (.bool (!(decide (r2 = (⟨#[102, 117, 108, 108]⟩ : ByteArray)))))) (by kernel_rfl) (by kernel_rfl) rfl (Try.sizeOf4 _) hp14) ?_
              intro w23 hn14
              replace h := h w23 hn14
              refine wpL_nil ?_
              refine th_n ?_
              exact ⟨Has.mk (by kernel_rfl), h⟩
    · skip
      refine wpE_seq ?_
      refine rg ?_
      refine q0 (.bool ((v1 : Int) == 8)) ?_
      refine q0 (.bool ((v1 : Int) == 8)) ?_
      refine wpL_nil ?_
      refine th_n ?_
      refine wpE_cond (t := ((v1 : Int) == 8)) (by kernel_rfl) (fun hc8 => ?_) (fun hc8 => ?_)
      · replace h := h.1 hc8
        refine wpE_skip ?_
        refine th_n ?_
        exact ⟨((v1 : Int) == 8), Has.mk (by kernel_rfl), h⟩
      · replace h := h.2 hc8
        refine rg ?_
        refine q0 (.bool ((v1 : Int) == 9)) ?_
        refine q0 (.bool ((v1 : Int) == 9)) ?_
        refine wpL_nil ?_
        refine th_n ?_
        exact ⟨((v1 : Int) == 9), Has.mk (by kernel_rfl), h⟩

def m_letter_reader_signed_j7 (who1 : Int) (p1 : Addr) (a1 : Addr) (a2 : Addr) (w : World) (K : Int → Int → Int → ByteArray → Bool → World → Prop) : Prop :=
  ∃ v1 : Int, w.cell? (a1.add 2) = some (.int .u64 v1) ∧
  ∃ v2 : ByteArray, w.cell? (a1.add 3) = some (.string v2) ∧
  ∃ v3 : Bool, w.cell? (a1.add 4) = some (.bool v3) ∧
  Br v3
    ((∀ j, j < 5 → CanW w (p1.add j)) ∧ ∀ w14 : World, w14 = storeRow w p1 [(.int .i64 4), (.int .i64 who1), (.int .u64 v1), (.string v2), (.bool true)] →
    ∃ qKind5 : Int, ∃ qFrom5 : Int, ∃ qC5 : Int, ∃ qText5 : ByteArray, ∃ qFake5 : Bool, Row w14 p1 [(.int .i64 qKind5), (.int .i64 qFrom5), (.int .u64 qC5), (.string qText5), (.bool qFake5)] ∧
    K qKind5 qFrom5 qC5 qText5 qFake5 w14)
    (∃ v4 : Bool, w.cell? (a2.add 4) = some (.bool v4) ∧
    (∀ j, j < 5 → CanW w (p1.add j)) ∧ ∀ w15 : World, w15 = storeRow w p1 [(.int .i64 4), (.int .i64 who1), (.int .u64 v1), (.string v2), (.bool v4)] →
    ∃ qKind6 : Int, ∃ qFrom6 : Int, ∃ qC6 : Int, ∃ qText6 : ByteArray, ∃ qFake6 : Bool, Row w15 p1 [(.int .i64 qKind6), (.int .i64 qFrom6), (.int .u64 qC6), (.string qText6), (.bool qFake6)] ∧
    K qKind6 qFrom6 qC6 qText6 qFake6 w15)
def m_letter_reader_signed_j10 (r1 : Option Addr) (who1 : Int) (p1 : Addr) (a1 : Addr) (a2 : Addr) (x8 : Bool) (w : World) (K : Int → Int → Int → ByteArray → Bool → World → Prop) : Prop :=
  Br x8
    (∃ a4 : Addr, r1 = some a4 ∧
    CanW w (a4.add 1) ∧ ∀ w16 : World, w16 = w.setCell (a4.add 1) (.bool true) →
    m_letter_reader_signed_j7 who1 p1 a1 a2 w16 K)
    (∃ v6 : ByteArray, w.cell? (a1.add 3) = some (.string v6) ∧
    ∃ v7 : ByteArray, w.cell? (a2.add 3) = some (.string v7) ∧
    ∃ a5 : Addr, r1 = some a5 ∧
    CanW w (a5.add 1) ∧ ∀ w17 : World, w17 = w.setCell (a5.add 1) (.bool (!(decide (v6 = v7)))) →
    m_letter_reader_signed_j7 who1 p1 a1 a2 w17 K)
def m_letter_reader_signed_j9 (r1 : Option Addr) (who1 : Int) (p1 : Addr) (a1 : Addr) (a2 : Addr) (x7 : Bool) (w : World) (K : Int → Int → Int → ByteArray → Bool → World → Prop) : Prop :=
  Br x7
    (m_letter_reader_signed_j10 r1 who1 p1 a1 a2 true w K)
    (∃ v8 : Int, w.cell? (a1.add 2) = some (.int .u64 v8) ∧
    ∃ v9 : Int, w.cell? (a2.add 2) = some (.int .u64 v9) ∧
    m_letter_reader_signed_j10 r1 who1 p1 a1 a2 ((v8 : Int) != v9) w K)
def m_letter_reader_signed_j8 (r1 : Option Addr) (who1 : Int) (p1 : Addr) (a1 : Addr) (a2 : Addr) (x6 : Bool) (w : World) (K : Int → Int → Int → ByteArray → Bool → World → Prop) : Prop :=
  Br x6
    (m_letter_reader_signed_j9 r1 who1 p1 a1 a2 true w K)
    (∃ v10 : Int, w.cell? (a2.add 1) = some (.int .i64 v10) ∧
    m_letter_reader_signed_j9 r1 who1 p1 a1 a2 ((v10 : Int) != 1) w K)
def m_letter_reader_signed_j6 (r1 : Option Addr) (who1 : Int) (p1 : Addr) (a1 : Addr) (a2 : Addr) (w : World) (K : Int → Int → Int → ByteArray → Bool → World → Prop) : Prop :=
  ∃ a3 : Addr, r1 = some a3 ∧
  ∃ v5 : Bool, w.cell? (a3.add 1) = some (.bool v5) ∧
  Br v5
    (m_letter_reader_signed_j8 r1 who1 p1 a1 a2 true w K)
    (∃ v11 : Int, w.cell? (a1.add 1) = some (.int .i64 v11) ∧
    m_letter_reader_signed_j8 r1 who1 p1 a1 a2 ((v11 : Int) != 0) w K)
def m_letter_reader_signed_j5 (r1 : Option Addr) (who1 : Int) (p1 : Addr) (r3 : Int) (x5 : Bool) (w : World) (K : Int → Int → Int → ByteArray → Bool → World → Prop) : Prop :=
  Br x5
    (Calls Try.prog 168 #[(.pointer r1), (.int .i64 r3), (.int .i64 4)] w (fun e w11 => ∃ rKind3 : Int, ∃ rFrom3 : Int, ∃ rTo3 : Int, ∃ rNum3 : Int, ∃ rText3 : ByteArray, ∃ rA3 : Int, ∃ rB3 : Int, e = .returned (.agg #[(.int .i64 rKind3), (.int .i64 rFrom3), (.int .i64 rTo3), (.int .u64 rNum3), (.string rText3), (.int .i64 rA3), (.int .i64 rB3)]) ∧ 
      ∀ (p2 : Addr) (w12 : World), New w11 (.cells #[(.int .i64 0), (.int .i64 0), (.int .i64 0), (.int .u64 0), (.string (⟨#[]⟩ : ByteArray)), (.int .i64 0), (.int .i64 0)] 93) p2 w12 →
      (∀ j, j < 7 → CanW w12 (p2.add j)) ∧ ∀ w13 : World, w13 = storeRow w12 p2 [(.int .i64 rKind3), (.int .i64 rFrom3), (.int .i64 rTo3), (.int .u64 rNum3), (.string rText3), (.int .i64 rA3), (.int .i64 rB3)] →
      ∃ C1 : World → Prop, C1 w13.drew ∧ ∀ w18, w18 = w13.drew →
      ∃ v12 : Int, (∀ w', C1 w' → w'.cell? (p2.add 5) = some (.int .i64 v12)) ∧
      ∃ v13 : Int, (∀ w', C1 w' → w'.cell? (p2.add 6) = some (.int .i64 v13)) ∧
      (Calls Try.prog 166 #[(.pointer r1), (.int .i64 v12)] w18 (fun e w19 => ∃ rKind4 : Int, ∃ rFrom4 : Int, ∃ rC1 : Int, ∃ rText4 : ByteArray, ∃ rFake1 : Bool, e = .returned (.agg #[(.int .i64 rKind4), (.int .i64 rFrom4), (.int .u64 rC1), (.string rText4), (.bool rFake1)]) ∧ C1 w19 ∧ 
        (Calls Try.prog 166 #[(.pointer r1), (.int .i64 v13)] w19 (fun e w20 => ∃ rKind5 : Int, ∃ rFrom5 : Int, ∃ rC2 : Int, ∃ rText5 : ByteArray, ∃ rFake2 : Bool, e = .returned (.agg #[(.int .i64 rKind5), (.int .i64 rFrom5), (.int .u64 rC2), (.string rText5), (.bool rFake2)]) ∧ 
          (∀ (p3 : Addr) (w21 : World), New w20 (.cells #[(.int .i64 0), (.int .i64 0), (.int .u64 0), (.string (⟨#[]⟩ : ByteArray)), (.bool false)] 132) p3 w21 → C1 w21 ∧
          ∀ (p4 : Addr) (w22 : World), New w21 (.cells #[(.int .i64 0), (.int .i64 0), (.int .u64 0), (.string (⟨#[]⟩ : ByteArray)), (.bool false)] 132) p4 w22 → C1 w22 ∧
          (∀ j, j < 5 → CanW w22 (p3.add j)) ∧ ∀ w23 : World, w23 = storeRow w22 p3 [(.int .i64 rKind4), (.int .i64 rFrom4), (.int .u64 rC1), (.string rText4), (.bool rFake1)] →
          (∀ j, j < 5 → CanW w23 (p4.add j)) ∧ ∀ w24 : World, w24 = storeRow w23 p4 [(.int .i64 rKind5), (.int .i64 rFrom5), (.int .u64 rC2), (.string rText5), (.bool rFake2)] →
          m_letter_reader_signed_j6 r1 who1 p1 p3 p4 w24 K) ∧
          (∀ (p5 : Addr) (w25 : World), New w20 (.cells #[(.int .i64 0), (.int .i64 0), (.int .u64 0), (.string (⟨#[]⟩ : ByteArray)), (.bool false)] 132) p5 w25 → C1 w25 ∧
          ∀ (p6 : Addr) (w26 : World), New w25 (.cells #[(.int .i64 0), (.int .i64 0), (.int .u64 0), (.string (⟨#[]⟩ : ByteArray)), (.bool false)] 132) p6 w26 → C1 w26 ∧
          (∀ j, j < 5 → CanW w26 (p6.add j)) ∧ ∀ w27 : World, w27 = storeRow w26 p6 [(.int .i64 rKind4), (.int .i64 rFrom4), (.int .u64 rC1), (.string rText4), (.bool rFake1)] →
          (∀ j, j < 5 → CanW w27 (p5.add j)) ∧ ∀ w28 : World, w28 = storeRow w27 p5 [(.int .i64 rKind5), (.int .i64 rFrom5), (.int .u64 rC2), (.string rText5), (.bool rFake2)] →
          m_letter_reader_signed_j6 r1 who1 p1 p6 p5 w28 K))) ∧
        (∀ (p7 : Addr) (w29 : World), New w19 (.cells #[(.int .i64 0), (.int .i64 0), (.int .u64 0), (.string (⟨#[]⟩ : ByteArray)), (.bool false)] 132) p7 w29 → C1 w29 ∧
        (Calls Try.prog 166 #[(.pointer r1), (.int .i64 v13)] w29 (fun e w30 => ∃ rKind6 : Int, ∃ rFrom6 : Int, ∃ rC3 : Int, ∃ rText6 : ByteArray, ∃ rFake3 : Bool, e = .returned (.agg #[(.int .i64 rKind6), (.int .i64 rFrom6), (.int .u64 rC3), (.string rText6), (.bool rFake3)]) ∧ 
          ∀ (p8 : Addr) (w31 : World), New w30 (.cells #[(.int .i64 0), (.int .i64 0), (.int .u64 0), (.string (⟨#[]⟩ : ByteArray)), (.bool false)] 132) p8 w31 → C1 w31 ∧
          (∀ j, j < 5 → CanW w31 (p7.add j)) ∧ ∀ w32 : World, w32 = storeRow w31 p7 [(.int .i64 rKind4), (.int .i64 rFrom4), (.int .u64 rC1), (.string rText4), (.bool rFake1)] →
          (∀ j, j < 5 → CanW w32 (p8.add j)) ∧ ∀ w33 : World, w33 = storeRow w32 p8 [(.int .i64 rKind6), (.int .i64 rFrom6), (.int .u64 rC3), (.string rText6), (.bool rFake3)] →
          m_letter_reader_signed_j6 r1 who1 p1 p7 p8 w33 K)) ∧
        (∀ (p9 : Addr) (w34 : World), New w29 (.cells #[(.int .i64 0), (.int .i64 0), (.int .u64 0), (.string (⟨#[]⟩ : ByteArray)), (.bool false)] 132) p9 w34 → C1 w34 ∧
        Calls Try.prog 166 #[(.pointer r1), (.int .i64 v13)] w34 (fun e w35 => ∃ rKind7 : Int, ∃ rFrom7 : Int, ∃ rC4 : Int, ∃ rText7 : ByteArray, ∃ rFake4 : Bool, e = .returned (.agg #[(.int .i64 rKind7), (.int .i64 rFrom7), (.int .u64 rC4), (.string rText7), (.bool rFake4)]) ∧ 
          (∀ j, j < 5 → CanW w35 (p7.add j)) ∧ ∀ w36 : World, w36 = storeRow w35 p7 [(.int .i64 rKind4), (.int .i64 rFrom4), (.int .u64 rC1), (.string rText4), (.bool rFake1)] →
          (∀ j, j < 5 → CanW w36 (p9.add j)) ∧ ∀ w37 : World, w37 = storeRow w36 p9 [(.int .i64 rKind7), (.int .i64 rFrom7), (.int .u64 rC4), (.string rText7), (.bool rFake4)] →
          m_letter_reader_signed_j6 r1 who1 p1 p7 p9 w37 K))) ∧
        (∀ (p10 : Addr) (w38 : World), New w19 (.cells #[(.int .i64 0), (.int .i64 0), (.int .u64 0), (.string (⟨#[]⟩ : ByteArray)), (.bool false)] 132) p10 w38 → C1 w38 ∧
        (Calls Try.prog 166 #[(.pointer r1), (.int .i64 v13)] w38 (fun e w39 => ∃ rKind8 : Int, ∃ rFrom8 : Int, ∃ rC5 : Int, ∃ rText8 : ByteArray, ∃ rFake5 : Bool, e = .returned (.agg #[(.int .i64 rKind8), (.int .i64 rFrom8), (.int .u64 rC5), (.string rText8), (.bool rFake5)]) ∧ 
          ∀ (p11 : Addr) (w40 : World), New w39 (.cells #[(.int .i64 0), (.int .i64 0), (.int .u64 0), (.string (⟨#[]⟩ : ByteArray)), (.bool false)] 132) p11 w40 → C1 w40 ∧
          (∀ j, j < 5 → CanW w40 (p11.add j)) ∧ ∀ w41 : World, w41 = storeRow w40 p11 [(.int .i64 rKind4), (.int .i64 rFrom4), (.int .u64 rC1), (.string rText4), (.bool rFake1)] →
          (∀ j, j < 5 → CanW w41 (p10.add j)) ∧ ∀ w42 : World, w42 = storeRow w41 p10 [(.int .i64 rKind8), (.int .i64 rFrom8), (.int .u64 rC5), (.string rText8), (.bool rFake5)] →
          m_letter_reader_signed_j6 r1 who1 p1 p11 p10 w42 K)) ∧
        (∀ (p12 : Addr) (w43 : World), New w38 (.cells #[(.int .i64 0), (.int .i64 0), (.int .u64 0), (.string (⟨#[]⟩ : ByteArray)), (.bool false)] 132) p12 w43 → C1 w43 ∧
        Calls Try.prog 166 #[(.pointer r1), (.int .i64 v13)] w43 (fun e w44 => ∃ rKind9 : Int, ∃ rFrom9 : Int, ∃ rC6 : Int, ∃ rText9 : ByteArray, ∃ rFake6 : Bool, e = .returned (.agg #[(.int .i64 rKind9), (.int .i64 rFrom9), (.int .u64 rC6), (.string rText9), (.bool rFake6)]) ∧ 
          (∀ j, j < 5 → CanW w44 (p12.add j)) ∧ ∀ w45 : World, w45 = storeRow w44 p12 [(.int .i64 rKind4), (.int .i64 rFrom4), (.int .u64 rC1), (.string rText4), (.bool rFake1)] →
          (∀ j, j < 5 → CanW w45 (p10.add j)) ∧ ∀ w46 : World, w46 = storeRow w45 p10 [(.int .i64 rKind9), (.int .i64 rFrom9), (.int .u64 rC6), (.string rText9), (.bool rFake6)] →
          m_letter_reader_signed_j6 r1 who1 p1 p12 p10 w46 K))))) ∧
      (∀ (p13 : Addr) (w47 : World), New w18 (.cells #[(.int .i64 0), (.int .i64 0), (.int .u64 0), (.string (⟨#[]⟩ : ByteArray)), (.bool false)] 132) p13 w47 → C1 w47 ∧
      (Calls Try.prog 166 #[(.pointer r1), (.int .i64 v12)] w47 (fun e w48 => ∃ rKind10 : Int, ∃ rFrom10 : Int, ∃ rC7 : Int, ∃ rText10 : ByteArray, ∃ rFake7 : Bool, e = .returned (.agg #[(.int .i64 rKind10), (.int .i64 rFrom10), (.int .u64 rC7), (.string rText10), (.bool rFake7)]) ∧ C1 w48 ∧ 
        (Calls Try.prog 166 #[(.pointer r1), (.int .i64 v13)] w48 (fun e w49 => ∃ rKind11 : Int, ∃ rFrom11 : Int, ∃ rC8 : Int, ∃ rText11 : ByteArray, ∃ rFake8 : Bool, e = .returned (.agg #[(.int .i64 rKind11), (.int .i64 rFrom11), (.int .u64 rC8), (.string rText11), (.bool rFake8)]) ∧ 
          ∀ (p14 : Addr) (w50 : World), New w49 (.cells #[(.int .i64 0), (.int .i64 0), (.int .u64 0), (.string (⟨#[]⟩ : ByteArray)), (.bool false)] 132) p14 w50 → C1 w50 ∧
          (∀ j, j < 5 → CanW w50 (p13.add j)) ∧ ∀ w51 : World, w51 = storeRow w50 p13 [(.int .i64 rKind10), (.int .i64 rFrom10), (.int .u64 rC7), (.string rText10), (.bool rFake7)] →
          (∀ j, j < 5 → CanW w51 (p14.add j)) ∧ ∀ w52 : World, w52 = storeRow w51 p14 [(.int .i64 rKind11), (.int .i64 rFrom11), (.int .u64 rC8), (.string rText11), (.bool rFake8)] →
          m_letter_reader_signed_j6 r1 who1 p1 p13 p14 w52 K)) ∧
        (∀ (p15 : Addr) (w53 : World), New w48 (.cells #[(.int .i64 0), (.int .i64 0), (.int .u64 0), (.string (⟨#[]⟩ : ByteArray)), (.bool false)] 132) p15 w53 → C1 w53 ∧
        Calls Try.prog 166 #[(.pointer r1), (.int .i64 v13)] w53 (fun e w54 => ∃ rKind12 : Int, ∃ rFrom12 : Int, ∃ rC9 : Int, ∃ rText12 : ByteArray, ∃ rFake9 : Bool, e = .returned (.agg #[(.int .i64 rKind12), (.int .i64 rFrom12), (.int .u64 rC9), (.string rText12), (.bool rFake9)]) ∧ 
          (∀ j, j < 5 → CanW w54 (p13.add j)) ∧ ∀ w55 : World, w55 = storeRow w54 p13 [(.int .i64 rKind10), (.int .i64 rFrom10), (.int .u64 rC7), (.string rText10), (.bool rFake7)] →
          (∀ j, j < 5 → CanW w55 (p15.add j)) ∧ ∀ w56 : World, w56 = storeRow w55 p15 [(.int .i64 rKind12), (.int .i64 rFrom12), (.int .u64 rC9), (.string rText12), (.bool rFake9)] →
          m_letter_reader_signed_j6 r1 who1 p1 p13 p15 w56 K)))) ∧
      (∀ (p16 : Addr) (w57 : World), New w47 (.cells #[(.int .i64 0), (.int .i64 0), (.int .u64 0), (.string (⟨#[]⟩ : ByteArray)), (.bool false)] 132) p16 w57 → C1 w57 ∧
      Calls Try.prog 166 #[(.pointer r1), (.int .i64 v12)] w57 (fun e w58 => ∃ rKind13 : Int, ∃ rFrom13 : Int, ∃ rC10 : Int, ∃ rText13 : ByteArray, ∃ rFake10 : Bool, e = .returned (.agg #[(.int .i64 rKind13), (.int .i64 rFrom13), (.int .u64 rC10), (.string rText13), (.bool rFake10)]) ∧ C1 w58 ∧ 
        Calls Try.prog 166 #[(.pointer r1), (.int .i64 v13)] w58 (fun e w59 => ∃ rKind14 : Int, ∃ rFrom14 : Int, ∃ rC11 : Int, ∃ rText14 : ByteArray, ∃ rFake11 : Bool, e = .returned (.agg #[(.int .i64 rKind14), (.int .i64 rFrom14), (.int .u64 rC11), (.string rText14), (.bool rFake11)]) ∧ 
          (∀ j, j < 5 → CanW w59 (p13.add j)) ∧ ∀ w60 : World, w60 = storeRow w59 p13 [(.int .i64 rKind13), (.int .i64 rFrom13), (.int .u64 rC10), (.string rText13), (.bool rFake10)] →
          (∀ j, j < 5 → CanW w60 (p16.add j)) ∧ ∀ w61 : World, w61 = storeRow w60 p16 [(.int .i64 rKind14), (.int .i64 rFrom14), (.int .u64 rC11), (.string rText14), (.bool rFake11)] →
          m_letter_reader_signed_j6 r1 who1 p1 p13 p16 w61 K)))) ∧
      (∀ (p17 : Addr) (w62 : World), New w18 (.cells #[(.int .i64 0), (.int .i64 0), (.int .u64 0), (.string (⟨#[]⟩ : ByteArray)), (.bool false)] 132) p17 w62 → C1 w62 ∧
      (Calls Try.prog 166 #[(.pointer r1), (.int .i64 v12)] w62 (fun e w63 => ∃ rKind15 : Int, ∃ rFrom15 : Int, ∃ rC12 : Int, ∃ rText15 : ByteArray, ∃ rFake12 : Bool, e = .returned (.agg #[(.int .i64 rKind15), (.int .i64 rFrom15), (.int .u64 rC12), (.string rText15), (.bool rFake12)]) ∧ C1 w63 ∧ 
        (Calls Try.prog 166 #[(.pointer r1), (.int .i64 v13)] w63 (fun e w64 => ∃ rKind16 : Int, ∃ rFrom16 : Int, ∃ rC13 : Int, ∃ rText16 : ByteArray, ∃ rFake13 : Bool, e = .returned (.agg #[(.int .i64 rKind16), (.int .i64 rFrom16), (.int .u64 rC13), (.string rText16), (.bool rFake13)]) ∧ 
          ∀ (p18 : Addr) (w65 : World), New w64 (.cells #[(.int .i64 0), (.int .i64 0), (.int .u64 0), (.string (⟨#[]⟩ : ByteArray)), (.bool false)] 132) p18 w65 → C1 w65 ∧
          (∀ j, j < 5 → CanW w65 (p18.add j)) ∧ ∀ w66 : World, w66 = storeRow w65 p18 [(.int .i64 rKind15), (.int .i64 rFrom15), (.int .u64 rC12), (.string rText15), (.bool rFake12)] →
          (∀ j, j < 5 → CanW w66 (p17.add j)) ∧ ∀ w67 : World, w67 = storeRow w66 p17 [(.int .i64 rKind16), (.int .i64 rFrom16), (.int .u64 rC13), (.string rText16), (.bool rFake13)] →
          m_letter_reader_signed_j6 r1 who1 p1 p18 p17 w67 K)) ∧
        (∀ (p19 : Addr) (w68 : World), New w63 (.cells #[(.int .i64 0), (.int .i64 0), (.int .u64 0), (.string (⟨#[]⟩ : ByteArray)), (.bool false)] 132) p19 w68 → C1 w68 ∧
        Calls Try.prog 166 #[(.pointer r1), (.int .i64 v13)] w68 (fun e w69 => ∃ rKind17 : Int, ∃ rFrom17 : Int, ∃ rC14 : Int, ∃ rText17 : ByteArray, ∃ rFake14 : Bool, e = .returned (.agg #[(.int .i64 rKind17), (.int .i64 rFrom17), (.int .u64 rC14), (.string rText17), (.bool rFake14)]) ∧ 
          (∀ j, j < 5 → CanW w69 (p19.add j)) ∧ ∀ w70 : World, w70 = storeRow w69 p19 [(.int .i64 rKind15), (.int .i64 rFrom15), (.int .u64 rC12), (.string rText15), (.bool rFake12)] →
          (∀ j, j < 5 → CanW w70 (p17.add j)) ∧ ∀ w71 : World, w71 = storeRow w70 p17 [(.int .i64 rKind17), (.int .i64 rFrom17), (.int .u64 rC14), (.string rText17), (.bool rFake14)] →
          m_letter_reader_signed_j6 r1 who1 p1 p19 p17 w71 K)))) ∧
      (∀ (p20 : Addr) (w72 : World), New w62 (.cells #[(.int .i64 0), (.int .i64 0), (.int .u64 0), (.string (⟨#[]⟩ : ByteArray)), (.bool false)] 132) p20 w72 → C1 w72 ∧
      Calls Try.prog 166 #[(.pointer r1), (.int .i64 v12)] w72 (fun e w73 => ∃ rKind18 : Int, ∃ rFrom18 : Int, ∃ rC15 : Int, ∃ rText18 : ByteArray, ∃ rFake15 : Bool, e = .returned (.agg #[(.int .i64 rKind18), (.int .i64 rFrom18), (.int .u64 rC15), (.string rText18), (.bool rFake15)]) ∧ C1 w73 ∧ 
        Calls Try.prog 166 #[(.pointer r1), (.int .i64 v13)] w73 (fun e w74 => ∃ rKind19 : Int, ∃ rFrom19 : Int, ∃ rC16 : Int, ∃ rText19 : ByteArray, ∃ rFake16 : Bool, e = .returned (.agg #[(.int .i64 rKind19), (.int .i64 rFrom19), (.int .u64 rC16), (.string rText19), (.bool rFake16)]) ∧ 
          (∀ j, j < 5 → CanW w74 (p20.add j)) ∧ ∀ w75 : World, w75 = storeRow w74 p20 [(.int .i64 rKind18), (.int .i64 rFrom18), (.int .u64 rC15), (.string rText18), (.bool rFake15)] →
          (∀ j, j < 5 → CanW w75 (p17.add j)) ∧ ∀ w76 : World, w76 = storeRow w75 p17 [(.int .i64 rKind19), (.int .i64 rFrom19), (.int .u64 rC16), (.string rText19), (.bool rFake16)] →
          m_letter_reader_signed_j6 r1 who1 p1 p20 p17 w76 K))))))
    (∃ a6 : Addr, r1 = some a6 ∧
    CanW w (a6.add 1) ∧ ∀ w77 : World, w77 = w.setCell (a6.add 1) (.bool true) →
    (∀ j, j < 5 → CanW w77 (p1.add j)) ∧ ∀ w78 : World, w78 = storeRow w77 p1 [(.int .i64 0), (.int .i64 0), (.int .u64 0), (.string (⟨#[]⟩ : ByteArray)), (.bool false)] →
    ∃ qKind7 : Int, ∃ qFrom7 : Int, ∃ qC7 : Int, ∃ qText7 : ByteArray, ∃ qFake7 : Bool, Row w78 p1 [(.int .i64 qKind7), (.int .i64 qFrom7), (.int .u64 qC7), (.string qText7), (.bool qFake7)] ∧
    K qKind7 qFrom7 qC7 qText7 qFake7 w78)
def m_letter_reader_signed_j4 (r1 : Option Addr) (who1 : Int) (body1 : Int) (p1 : Addr) (r2 : ByteArray) (r3 : Int) (x4 : Bool) (w : World) (K : Int → Int → Int → ByteArray → Bool → World → Prop) : Prop :=
  Br x4
    (Calls Try.prog 218 #[(.pointer r1), (.int .i64 body1)] w (fun e w9 => ∃ r6 : Int, ∃ r7 : ByteArray, e = .returned (.tuple #[(.int .u64 r6), (.string r7)]) ∧ 
      (∀ j, j < 5 → CanW w9 (p1.add j)) ∧ ∀ w10 : World, w10 = storeRow w9 p1 [(.int .i64 2), (.int .i64 who1), (.int .u64 r6), (.string r7), (.bool false)] →
      ∃ qKind4 : Int, ∃ qFrom4 : Int, ∃ qC4 : Int, ∃ qText4 : ByteArray, ∃ qFake4 : Bool, Row w10 p1 [(.int .i64 qKind4), (.int .i64 qFrom4), (.int .u64 qC4), (.string qText4), (.bool qFake4)] ∧
      K qKind4 qFrom4 qC4 qText4 qFake4 w10))
    (Br (decide (r2 = (⟨#[114, 101, 115, 111, 108, 118, 101]⟩ : ByteArray)))
      (m_letter_reader_signed_j5 r1 who1 p1 r3 (decide (who1 ≤ 1)) w K)
      (m_letter_reader_signed_j5 r1 who1 p1 r3 false w K))
def m_letter_reader_signed_j3 (r1 : Option Addr) (who1 : Int) (body1 : Int) (p1 : Addr) (r2 : ByteArray) (r3 : Int) (x3 : Bool) (w : World) (K : Int → Int → Int → ByteArray → Bool → World → Prop) : Prop :=
  Br x3
    (Calls Try.prog 218 #[(.pointer r1), (.int .i64 r3)] w (fun e w7 => ∃ r4 : Int, ∃ r5 : ByteArray, e = .returned (.tuple #[(.int .u64 r4), (.string r5)]) ∧ 
      (∀ j, j < 5 → CanW w7 (p1.add j)) ∧ ∀ w8 : World, w8 = storeRow w7 p1 [(.int .i64 6), (.int .i64 0), (.int .u64 r4), (.string r5), (.bool false)] →
      ∃ qKind3 : Int, ∃ qFrom3 : Int, ∃ qC3 : Int, ∃ qText3 : ByteArray, ∃ qFake3 : Bool, Row w8 p1 [(.int .i64 qKind3), (.int .i64 qFrom3), (.int .u64 qC3), (.string qText3), (.bool qFake3)] ∧
      K qKind3 qFrom3 qC3 qText3 qFake3 w8))
    (Br (decide (r2 = (⟨#[100, 101, 97, 108]⟩ : ByteArray)))
      (m_letter_reader_signed_j4 r1 who1 body1 p1 r2 r3 (decide (who1 ≤ 1)) w K)
      (m_letter_reader_signed_j4 r1 who1 body1 p1 r2 r3 false w K))
def m_letter_reader_signed_j2 (r1 : Option Addr) (who1 : Int) (body1 : Int) (p1 : Addr) (r2 : ByteArray) (r3 : Int) (x2 : Bool) (w : World) (K : Int → Int → Int → ByteArray → Bool → World → Prop) : Prop :=
  Br x2
    (Calls Try.prog 168 #[(.pointer r1), (.int .i64 r3), (.int .i64 2)] w (fun e w5 => ∃ rKind2 : Int, ∃ rFrom2 : Int, ∃ rTo2 : Int, ∃ rNum2 : Int, ∃ rText2 : ByteArray, ∃ rA2 : Int, ∃ rB2 : Int, e = .returned (.agg #[(.int .i64 rKind2), (.int .i64 rFrom2), (.int .i64 rTo2), (.int .u64 rNum2), (.string rText2), (.int .i64 rA2), (.int .i64 rB2)]) ∧ 
      (∀ j, j < 5 → CanW w5 (p1.add j)) ∧ ∀ w6 : World, w6 = storeRow w5 p1 [(.int .i64 5), (.int .i64 0), (.int .u64 rNum2), (.string (⟨#[]⟩ : ByteArray)), (.bool false)] →
      ∃ qKind2 : Int, ∃ qFrom2 : Int, ∃ qC2 : Int, ∃ qText2 : ByteArray, ∃ qFake2 : Bool, Row w6 p1 [(.int .i64 qKind2), (.int .i64 qFrom2), (.int .u64 qC2), (.string qText2), (.bool qFake2)] ∧
      K qKind2 qFrom2 qC2 qText2 qFake2 w6))
    (Br (decide (r2 = (⟨#[105, 110, 115, 116, 101, 97, 100]⟩ : ByteArray)))
      (m_letter_reader_signed_j3 r1 who1 body1 p1 r2 r3 ((who1 : Int) == 2) w K)
      (m_letter_reader_signed_j3 r1 who1 body1 p1 r2 r3 false w K))
def m_letter_reader_signed_j1 (r1 : Option Addr) (who1 : Int) (body1 : Int) (p1 : Addr) (r2 : ByteArray) (r3 : Int) (x1 : Bool) (w : World) (K : Int → Int → Int → ByteArray → Bool → World → Prop) : Prop :=
  Br x1
    (Calls Try.prog 168 #[(.pointer r1), (.int .i64 r3), (.int .i64 2)] w (fun e w3 => ∃ rKind1 : Int, ∃ rFrom1 : Int, ∃ rTo1 : Int, ∃ rNum1 : Int, ∃ rText1 : ByteArray, ∃ rA1 : Int, ∃ rB1 : Int, e = .returned (.agg #[(.int .i64 rKind1), (.int .i64 rFrom1), (.int .i64 rTo1), (.int .u64 rNum1), (.string rText1), (.int .i64 rA1), (.int .i64 rB1)]) ∧ 
      (∀ j, j < 5 → CanW w3 (p1.add j)) ∧ ∀ w4 : World, w4 = storeRow w3 p1 [(.int .i64 3), (.int .i64 0), (.int .u64 rNum1), (.string (⟨#[]⟩ : ByteArray)), (.bool false)] →
      ∃ qKind1 : Int, ∃ qFrom1 : Int, ∃ qC1 : Int, ∃ qText1 : ByteArray, ∃ qFake1 : Bool, Row w4 p1 [(.int .i64 qKind1), (.int .i64 qFrom1), (.int .u64 qC1), (.string qText1), (.bool qFake1)] ∧
      K qKind1 qFrom1 qC1 qText1 qFake1 w4))
    (Br (decide (r2 = (⟨#[97, 98, 111, 114, 116, 101, 100]⟩ : ByteArray)))
      (m_letter_reader_signed_j2 r1 who1 body1 p1 r2 r3 ((who1 : Int) == 2) w K)
      (m_letter_reader_signed_j2 r1 who1 body1 p1 r2 r3 false w K))
def m_letter_reader_signed (r1 : Option Addr) (who1 : Int) (body1 : Int) (w : World) (K : Int → Int → Int → ByteArray → Bool → World → Prop) : Prop :=
  ∀ (p1 : Addr) (w1 : World), New w (.cells #[(.int .i64 0), (.int .i64 0), (.int .u64 0), (.string (⟨#[]⟩ : ByteArray)), (.bool false)] 132) p1 w1 →
  Calls Try.prog 167 #[(.pointer r1), (.int .i64 body1)] w1 (fun e w2 => ∃ r2 : ByteArray, ∃ r3 : Int, e = .returned (.tuple #[(.string r2), (.int .i64 r3)]) ∧ 
    Br (decide (r2 = (⟨#[97, 98, 111, 114, 116]⟩ : ByteArray)))
      (m_letter_reader_signed_j1 r1 who1 body1 p1 r2 r3 ((who1 : Int) == 0) w2 K)
      (m_letter_reader_signed_j1 r1 who1 body1 p1 r2 r3 false w2 K))
set_option maxRecDepth 100000 in
set_option maxHeartbeats 4000000 in
theorem w_letter_reader_signed (r1 : Option Addr) (who1 : Int) (body1 : Int) (w : World) (K : Int → Int → Int → ByteArray → Bool → World → Prop) (h : m_letter_reader_signed r1 who1 body1 w K) :
    Calls Try.prog 165 #[(.pointer r1), (.int .i64 who1), (.int .i64 body1)] w (fun e w' => ∃ rKind20 : Int, ∃ rFrom20 : Int, ∃ rC17 : Int, ∃ rText20 : ByteArray, ∃ rFake17 : Bool, e = .returned (.agg #[(.int .i64 rKind20), (.int .i64 rFrom20), (.int .u64 rC17), (.string rText20), (.bool rFake17)]) ∧ K rKind20 rFrom20 rC17 rText20 rFake17 w') := by
  unfold m_letter_reader_signed at h
  refine calls_of_wpE (args := [(.pointer r1), (.int .i64 who1), (.int .i64 body1)]) Try.func165 rfl Try.ntmps165 (Nat.le_of_ble_eq_true rfl) ?_
  refine wpE_seq ?_
  refine rg ?_
  refine st_new (O := (.cells #[(.int .i64 0), (.int .i64 0), (.int .u64 0), (.string (⟨#[]⟩ : ByteArray)), (.bool false)] 132)) (fun p => .pointer (some p)) (want0 rfl) (x_alloc (Try.zeroValue132 _) rfl) ?_
  intro p1 w1 hn55
  replace h := h p1 w1 hn55
  refine wpL_nil ?_
  refine th_n ?_
  refine wpE_seq ?_
  refine rg ?_
  refine q0 (.pointer r1) ?_
  refine q0 (.int .i64 body1) ?_
  refine st_call (want0 rfl) (x_callE (args := #[(.pointer r1), (.int .i64 body1)]) Try.call167 (by kernel_rfl)) (h.mono ?_)
  clear h
  rintro e w2 ⟨r2, r3, rfl, h⟩
  refine ⟨_, rfl, ?_⟩
  refine q0 (.tuple #[(.string r2), (.int .i64 r3)]) ?_
  refine q0 (.string r2) ?_
  refine q0 (.int .i64 r3) ?_
  refine q0 (.string r2) ?_
  refine q0 (.int .i64 r3) ?_
  refine wpL_nil ?_
  refine th_n ?_
  refine wpE_seq ?_
  refine wpE_block ?_
  refine wpE_join (fun ρ w => ∃ x1 : Bool, Has ρ [(0, (.pointer r1)), (1, (.int .i64 who1)), (2, (.int .i64 body1)), (6, (.pointer (some p1))), (7, (.string r2)), (8, (.int .i64 r3)), (22, (.bool x1))] ∧ m_letter_reader_signed_j1 r1 who1 body1 p1 r2 r3 x1 w K) ?_ ?_
  · rintro ρ w ⟨x1, hH, h⟩
    unfold m_letter_reader_signed_j1 at h
    refine wpE_has hH ?_
    clear hH
    refine wpE_cond (t := x1) (by kernel_rfl) (fun hc1 => ?_) (fun hc1 => ?_)
    · replace h := h.1 hc1
      refine wpE_seq ?_
      refine rg ?_
      refine q0 (.pointer r1) ?_
      refine q0 (.int .i64 r3) ?_
      refine st_call (want0 rfl) (x_callE (args := #[(.pointer r1), (.int .i64 r3), (.int .i64 2)]) Try.call168 (by kernel_rfl)) (h.mono ?_)
      clear h
      rintro e w3 ⟨rKind1, rFrom1, rTo1, rNum1, rText1, rA1, rB1, rfl, h⟩
      refine ⟨_, rfl, ?_⟩
      refine q0 (.int .u64 rNum1) ?_
      refine q0 (.agg #[(.int .i64 3), (.int .i64 0), (.int .u64 rNum1), (.string (⟨#[]⟩ : ByteArray)), (.bool false)]) ?_
      obtain ⟨hp1, h⟩ := h
      refine st_set (want0 rfl) (x_storeA (a := p1) (vs := [(.int .i64 3), (.int .i64 0), (.int .u64 rNum1), (.string (⟨#[]⟩ : ByteArray)), (.bool false)]) (by kernel_rfl) (by kernel_rfl) rfl (Try.sizeOf132 _) rfl hp1) ?_
      intro w4 hn1
      replace h := h w4 hn1
      refine wpL_nil ?_
      refine th_n ?_
      refine wpE_ret ?_
      refine bl_r ?_
      refine th_r ?_
      obtain ⟨qKind1, qFrom1, qC1, qText1, qFake1, hv1, h⟩ := h
      refine resG (.inl rfl) (rs := [.cell 6 132]) (vs := [(.agg #[(.int .i64 qKind1), (.int .i64 qFrom1), (.int .u64 qC1), (.string qText1), (.bool qFake1)])]) (v := (.agg #[(.int .i64 qKind1), (.int .i64 qFrom1), (.int .u64 qC1), (.string qText1), (.bool qFake1)])) Try.results165 ⟨(RV.cellA (A := p1) (vs := [(.int .i64 qKind1), (.int .i64 qFrom1), (.int .u64 qC1), (.string qText1), (.bool qFake1)]) (by kernel_rfl) (Try.isAgg132 _) (Try.sizeOf132 _) rfl hv1), trivial⟩ (by kernel_rfl) ?_
      exact ⟨qKind1, qFrom1, qC1, qText1, qFake1, rfl, h⟩
    · replace h := h.2 hc1
      refine wpE_join (fun ρ w => ∃ x2 : Bool, Has ρ [(0, (.pointer r1)), (1, (.int .i64 who1)), (2, (.int .i64 body1)), (6, (.pointer (some p1))), (7, (.string r2)), (8, (.int .i64 r3)), (34, (.bool x2))] ∧ m_letter_reader_signed_j2 r1 who1 body1 p1 r2 r3 x2 w K) ?_ ?_
      · rintro ρ w ⟨x2, hH, h⟩
        unfold m_letter_reader_signed_j2 at h
        refine wpE_has hH ?_
        clear hH
        refine wpE_cond (t := x2) (by kernel_rfl) (fun hc2 => ?_) (fun hc2 => ?_)
        · replace h := h.1 hc2
          refine wpE_seq ?_
          refine rg ?_
          refine q0 (.pointer r1) ?_
          refine q0 (.int .i64 r3) ?_
          refine st_call (want0 rfl) (x_callE (args := #[(.pointer r1), (.int .i64 r3), (.int .i64 2)]) Try.call168 (by kernel_rfl)) (h.mono ?_)
          clear h
          rintro e w5 ⟨rKind2, rFrom2, rTo2, rNum2, rText2, rA2, rB2, rfl, h⟩
          refine ⟨_, rfl, ?_⟩
          refine q0 (.int .u64 rNum2) ?_
          refine q0 (.agg #[(.int .i64 5), (.int .i64 0), (.int .u64 rNum2), (.string (⟨#[]⟩ : ByteArray)), (.bool false)]) ?_
          obtain ⟨hp2, h⟩ := h
          refine st_set (want0 rfl) (x_storeA (a := p1) (vs := [(.int .i64 5), (.int .i64 0), (.int .u64 rNum2), (.string (⟨#[]⟩ : ByteArray)), (.bool false)]) (by kernel_rfl) (by kernel_rfl) rfl (Try.sizeOf132 _) rfl hp2) ?_
          intro w6 hn2
          replace h := h w6 hn2
          refine wpL_nil ?_
          refine th_n ?_
          refine wpE_ret ?_
          refine bl_r ?_
          refine th_r ?_
          obtain ⟨qKind2, qFrom2, qC2, qText2, qFake2, hv2, h⟩ := h
          refine resG (.inl rfl) (rs := [.cell 6 132]) (vs := [(.agg #[(.int .i64 qKind2), (.int .i64 qFrom2), (.int .u64 qC2), (.string qText2), (.bool qFake2)])]) (v := (.agg #[(.int .i64 qKind2), (.int .i64 qFrom2), (.int .u64 qC2), (.string qText2), (.bool qFake2)])) Try.results165 ⟨(RV.cellA (A := p1) (vs := [(.int .i64 qKind2), (.int .i64 qFrom2), (.int .u64 qC2), (.string qText2), (.bool qFake2)]) (by kernel_rfl) (Try.isAgg132 _) (Try.sizeOf132 _) rfl hv2), trivial⟩ (by kernel_rfl) ?_
          exact ⟨qKind2, qFrom2, qC2, qText2, qFake2, rfl, h⟩
        · replace h := h.2 hc2
          refine wpE_join (fun ρ w => ∃ x3 : Bool, Has ρ [(0, (.pointer r1)), (1, (.int .i64 who1)), (2, (.int .i64 body1)), (6, (.pointer (some p1))), (7, (.string r2)), (8, (.int .i64 r3)), (46, (.bool x3))] ∧ m_letter_reader_signed_j3 r1 who1 body1 p1 r2 r3 x3 w K) ?_ ?_
          · rintro ρ w ⟨x3, hH, h⟩
            unfold m_letter_reader_signed_j3 at h
            refine wpE_has hH ?_
            clear hH
            refine wpE_cond (t := x3) (by kernel_rfl) (fun hc3 => ?_) (fun hc3 => ?_)
            · replace h := h.1 hc3
              refine wpE_seq ?_
              refine rg ?_
              refine q0 (.pointer r1) ?_
              refine q0 (.int .i64 r3) ?_
              refine st_call (want0 rfl) (x_callE (args := #[(.pointer r1), (.int .i64 r3)]) Try.call218 (by kernel_rfl)) (h.mono ?_)
              clear h
              rintro e w7 ⟨r4, r5, rfl, h⟩
              refine ⟨_, rfl, ?_⟩
              refine q0 (.tuple #[(.int .u64 r4), (.string r5)]) ?_
              refine q0 (.int .u64 r4) ?_
              refine q0 (.string r5) ?_
              refine q0 (.int .u64 r4) ?_
              refine q0 (.string r5) ?_
              refine wpL_nil ?_
              refine th_n ?_
              refine wpE_seq ?_
              refine rg ?_
              refine q0 (.int .u64 r4) ?_
              refine q0 (.string r5) ?_
              refine q0 (.agg #[(.int .i64 6), (.int .i64 0), (.int .u64 r4), (.string r5), (.bool false)]) ?_
              obtain ⟨hp3, h⟩ := h
              refine st_set (want0 rfl) (x_storeA (a := p1) (vs := [(.int .i64 6), (.int .i64 0), (.int .u64 r4), (.string r5), (.bool false)]) (by kernel_rfl) (by kernel_rfl) rfl (Try.sizeOf132 _) rfl hp3) ?_
              intro w8 hn3
              replace h := h w8 hn3
              refine wpL_nil ?_
              refine th_n ?_
              refine wpE_ret ?_
              refine bl_r ?_
              refine th_r ?_
              obtain ⟨qKind3, qFrom3, qC3, qText3, qFake3, hv3, h⟩ := h
              refine resG (.inl rfl) (rs := [.cell 6 132]) (vs := [(.agg #[(.int .i64 qKind3), (.int .i64 qFrom3), (.int .u64 qC3), (.string qText3), (.bool qFake3)])]) (v := (.agg #[(.int .i64 qKind3), (.int .i64 qFrom3), (.int .u64 qC3), (.string qText3), (.bool qFake3)])) Try.results165 ⟨(RV.cellA (A := p1) (vs := [(.int .i64 qKind3), (.int .i64 qFrom3), (.int .u64 qC3), (.string qText3), (.bool qFake3)]) (by kernel_rfl) (Try.isAgg132 _) (Try.sizeOf132 _) rfl hv3), trivial⟩ (by kernel_rfl) ?_
              exact ⟨qKind3, qFrom3, qC3, qText3, qFake3, rfl, h⟩
            · replace h := h.2 hc3
              refine wpE_join (fun ρ w => ∃ x4 : Bool, Has ρ [(0, (.pointer r1)), (1, (.int .i64 who1)), (2, (.int .i64 body1)), (6, (.pointer (some p1))), (7, (.string r2)), (8, (.int .i64 r3)), (62, (.bool x4))] ∧ m_letter_reader_signed_j4 r1 who1 body1 p1 r2 r3 x4 w K) ?_ ?_
              · rintro ρ w ⟨x4, hH, h⟩
                unfold m_letter_reader_signed_j4 at h
                refine wpE_has hH ?_
                clear hH
                refine wpE_cond (t := x4) (by kernel_rfl) (fun hc4 => ?_) (fun hc4 => ?_)
                · replace h := h.1 hc4
                  refine wpE_seq ?_
                  refine rg ?_
                  refine q0 (.pointer r1) ?_
                  refine q0 (.int .i64 body1) ?_
                  refine st_call (want0 rfl) (x_callE (args := #[(.pointer r1), (.int .i64 body1)]) Try.call218 (by kernel_rfl)) (h.mono ?_)
                  clear h
                  rintro e w9 ⟨r6, r7, rfl, h⟩
                  refine ⟨_, rfl, ?_⟩
                  refine q0 (.tuple #[(.int .u64 r6), (.string r7)]) ?_
                  refine q0 (.int .u64 r6) ?_
                  refine q0 (.string r7) ?_
                  refine q0 (.int .u64 r6) ?_
                  refine q0 (.string r7) ?_
                  refine wpL_nil ?_
                  refine th_n ?_
                  refine wpE_seq ?_
                  refine rg ?_
                  refine q0 (.int .i64 who1) ?_
                  refine q0 (.int .u64 r6) ?_
                  refine q0 (.string r7) ?_
                  refine q0 (.agg #[(.int .i64 2), (.int .i64 who1), (.int .u64 r6), (.string r7), (.bool false)]) ?_
                  obtain ⟨hp4, h⟩ := h
                  refine st_set (want0 rfl) (x_storeA (a := p1) (vs := [(.int .i64 2), (.int .i64 who1), (.int .u64 r6), (.string r7), (.bool false)]) (by kernel_rfl) (by kernel_rfl) rfl (Try.sizeOf132 _) rfl hp4) ?_
                  intro w10 hn4
                  replace h := h w10 hn4
                  refine wpL_nil ?_
                  refine th_n ?_
                  refine wpE_ret ?_
                  refine bl_r ?_
                  refine th_r ?_
                  obtain ⟨qKind4, qFrom4, qC4, qText4, qFake4, hv4, h⟩ := h
                  refine resG (.inl rfl) (rs := [.cell 6 132]) (vs := [(.agg #[(.int .i64 qKind4), (.int .i64 qFrom4), (.int .u64 qC4), (.string qText4), (.bool qFake4)])]) (v := (.agg #[(.int .i64 qKind4), (.int .i64 qFrom4), (.int .u64 qC4), (.string qText4), (.bool qFake4)])) Try.results165 ⟨(RV.cellA (A := p1) (vs := [(.int .i64 qKind4), (.int .i64 qFrom4), (.int .u64 qC4), (.string qText4), (.bool qFake4)]) (by kernel_rfl) (Try.isAgg132 _) (Try.sizeOf132 _) rfl hv4), trivial⟩ (by kernel_rfl) ?_
                  exact ⟨qKind4, qFrom4, qC4, qText4, qFake4, rfl, h⟩
                · replace h := h.2 hc4
                  refine wpE_join (fun ρ w => ∃ x5 : Bool, Has ρ [(0, (.pointer r1)), (1, (.int .i64 who1)), (6, (.pointer (some p1))), (8, (.int .i64 r3)), (79, (.bool x5))] ∧ m_letter_reader_signed_j5 r1 who1 p1 r3 x5 w K) ?_ ?_
                  · rintro ρ w ⟨x5, hH, h⟩
                    unfold m_letter_reader_signed_j5 at h
                    refine wpE_has hH ?_
                    clear hH
                    refine wpE_cond (t := x5) (by kernel_rfl) (fun hc5 => ?_) (fun hc5 => ?_)
                    · replace h := h.1 hc5
                      refine wpE_seq ?_
                      refine rg ?_
                      refine q0 (.pointer r1) ?_
                      refine q0 (.int .i64 r3) ?_
                      refine st_call (want0 rfl) (x_callE (args := #[(.pointer r1), (.int .i64 r3), (.int .i64 4)]) Try.call168 (by kernel_rfl)) (h.mono ?_)
                      clear h
                      rintro e w11 ⟨rKind3, rFrom3, rTo3, rNum3, rText3, rA3, rB3, rfl, h⟩
                      refine ⟨_, rfl, ?_⟩
                      refine st_new (O := (.cells #[(.int .i64 0), (.int .i64 0), (.int .i64 0), (.int .u64 0), (.string (⟨#[]⟩ : ByteArray)), (.int .i64 0), (.int .i64 0)] 93)) (fun p => .pointer (some p)) (want0 rfl) (x_alloc (Try.zeroValue93 _) rfl) ?_
                      intro p2 w12 hn52
                      replace h := h p2 w12 hn52
                      obtain ⟨hp5, h⟩ := h
                      refine st_set (want0 rfl) (x_storeA (a := p2) (vs := [(.int .i64 rKind3), (.int .i64 rFrom3), (.int .i64 rTo3), (.int .u64 rNum3), (.string rText3), (.int .i64 rA3), (.int .i64 rB3)]) (by kernel_rfl) (by kernel_rfl) rfl (Try.sizeOf93 _) rfl hp5) ?_
                      intro w13 hn5
                      replace h := h w13 hn5
                      refine wpL_nil ?_
                      refine th_n ?_
                      refine wpE_join (fun ρ w => ∃ a1 : Addr, ∃ a2 : Addr, Has ρ [(0, (.pointer r1)), (1, (.int .i64 who1)), (6, (.pointer (some p1))), (14, (.pointer (some a1))), (15, (.pointer (some a2)))] ∧ m_letter_reader_signed_j6 r1 who1 p1 a1 a2 w K) ?_ ?_
                      · rintro ρ w ⟨a1, a2, hH, h⟩
                        unfold m_letter_reader_signed_j6 at h
                        refine wpE_has hH ?_
                        clear hH
                        refine wpE_join (fun ρ w => Has ρ [(1, (.int .i64 who1)), (6, (.pointer (some p1))), (14, (.pointer (some a1))), (15, (.pointer (some a2)))] ∧ m_letter_reader_signed_j7 who1 p1 a1 a2 w K) ?_ ?_
                        · rintro ρ w ⟨hH, h⟩
                          unfold m_letter_reader_signed_j7 at h
                          refine wpE_has hH ?_
                          clear hH
                          refine wpE_seq ?_
                          refine rg ?_
                          refine q0 (.int .i64 who1) ?_
                          refine q0 (.pointer (some (a1.add 2))) ?_
                          obtain ⟨v1, hv10, h⟩ := h
                          refine q2 (.int .u64 v1) (x_load (a := (a1.add 2)) (by kernel_rfl) (Try.isAgg38 _) hv10) ?_
                          refine q0 (.pointer (some (a1.add 3))) ?_
                          obtain ⟨v2, hv9, h⟩ := h
                          refine q2 (.string v2) (x_load (a := (a1.add 3)) (by kernel_rfl) (Try.isAgg9 _) hv9) ?_
                          refine q0 (.pointer (some (a1.add 4))) ?_
                          obtain ⟨v3, hv8, h⟩ := h
                          refine q2 (.bool v3) (x_load (a := (a1.add 4)) (by kernel_rfl) (Try.isAgg4 _) hv8) ?_
                          refine q0 (.bool v3) ?_
                          rcases Bool.eq_false_or_eq_true v3 with hg1 | hg1
                          · replace h := h.1 hg1
                            refine st_not (unwant rfl (yD 135 hg1) rfl) ?_
                            refine st_not (unwant rfl (yD 135 hg1) rfl) ?_
                            refine q2 (.bool true) (x_pickT (b := v3) (by kernel_rfl) hg1 (by kernel_rfl)) ?_
                            refine q0 (.agg #[(.int .i64 4), (.int .i64 who1), (.int .u64 v1), (.string v2), (.bool true)]) ?_
                            obtain ⟨hp6, h⟩ := h
                            refine st_set (want0 rfl) (x_storeA (a := p1) (vs := [(.int .i64 4), (.int .i64 who1), (.int .u64 v1), (.string v2), (.bool true)]) (by kernel_rfl) (by kernel_rfl) rfl (Try.sizeOf132 _) rfl hp6) ?_
                            intro w14 hn6
                            replace h := h w14 hn6
                            refine wpL_nil ?_
                            refine th_n ?_
                            refine wpE_ret ?_
                            refine bl_r ?_
                            refine th_r ?_
                            obtain ⟨qKind5, qFrom5, qC5, qText5, qFake5, hv5, h⟩ := h
                            refine resG (.inl rfl) (rs := [.cell 6 132]) (vs := [(.agg #[(.int .i64 qKind5), (.int .i64 qFrom5), (.int .u64 qC5), (.string qText5), (.bool qFake5)])]) (v := (.agg #[(.int .i64 qKind5), (.int .i64 qFrom5), (.int .u64 qC5), (.string qText5), (.bool qFake5)])) Try.results165 ⟨(RV.cellA (A := p1) (vs := [(.int .i64 qKind5), (.int .i64 qFrom5), (.int .u64 qC5), (.string qText5), (.bool qFake5)]) (by kernel_rfl) (Try.isAgg132 _) (Try.sizeOf132 _) rfl hv5), trivial⟩ (by kernel_rfl) ?_
                            exact ⟨qKind5, qFrom5, qC5, qText5, qFake5, rfl, h⟩
                          · replace h := h.2 hg1
                            refine q1 (.pointer (some (a2.add 4))) (want1 rfl (yD 135 hg1)) ?_
                            obtain ⟨v4, hv7, h⟩ := h
                            refine stp (v := (.bool v4)) (want1 rfl (yD 135 hg1)) (x_load (a := (a2.add 4)) (by kernel_rfl) (Try.isAgg4 _) hv7) ?_
                            refine q2 (.bool v4) (x_pickF (b := v3) (by kernel_rfl) hg1 (by kernel_rfl)) ?_
                            refine q0 (.agg #[(.int .i64 4), (.int .i64 who1), (.int .u64 v1), (.string v2), (.bool v4)]) ?_
                            obtain ⟨hp7, h⟩ := h
                            refine st_set (want0 rfl) (x_storeA (a := p1) (vs := [(.int .i64 4), (.int .i64 who1), (.int .u64 v1), (.string v2), (.bool v4)]) (by kernel_rfl) (by kernel_rfl) rfl (Try.sizeOf132 _) rfl hp7) ?_
                            intro w15 hn7
                            replace h := h w15 hn7
                            refine wpL_nil ?_
                            refine th_n ?_
                            refine wpE_ret ?_
                            refine bl_r ?_
                            refine th_r ?_
                            obtain ⟨qKind6, qFrom6, qC6, qText6, qFake6, hv6, h⟩ := h
                            refine resG (.inl rfl) (rs := [.cell 6 132]) (vs := [(.agg #[(.int .i64 qKind6), (.int .i64 qFrom6), (.int .u64 qC6), (.string qText6), (.bool qFake6)])]) (v := (.agg #[(.int .i64 qKind6), (.int .i64 qFrom6), (.int .u64 qC6), (.string qText6), (.bool qFake6)])) Try.results165 ⟨(RV.cellA (A := p1) (vs := [(.int .i64 qKind6), (.int .i64 qFrom6), (.int .u64 qC6), (.string qText6), (.bool qFake6)]) (by kernel_rfl) (Try.isAgg132 _) (Try.sizeOf132 _) rfl hv6), trivial⟩ (by kernel_rfl) ?_
                            exact ⟨qKind6, qFrom6, qC6, qText6, qFake6, rfl, h⟩
                        · skip
                          refine rg ?_
                          refine q0 (.pointer r1) ?_
                          refine q0 (.pointer r1) ?_
                          obtain ⟨a3, hp8, h⟩ := h
                          refine q2 (.pointer (some a3)) (x_nilCheck (p := r1) (by kernel_rfl) hp8) ?_
                          refine q0 (.pointer (some (a3.add 1))) ?_
                          obtain ⟨v5, hv17, h⟩ := h
                          refine q2 (.bool v5) (x_load (a := (a3.add 1)) (by kernel_rfl) (Try.isAgg4 _) hv17) ?_
                          refine q0 (.bool v5) ?_
                          refine wpL_join 4 (fun ρ w => ∃ x6 : Bool, Has ρ [(1, (.int .i64 who1)), (6, (.pointer (some p1))), (14, (.pointer (some a1))), (15, (.pointer (some a2))), (97, (.pointer r1)), (106, (.bool x6))] ∧ m_letter_reader_signed_j8 r1 who1 p1 a1 a2 x6 w K) ?_ ?_
                          · rintro ρ w ⟨x6, hH, h⟩
                            unfold m_letter_reader_signed_j8 at h
                            refine wpL_has hH ?_
                            clear hH
                            refine q0 (.bool x6) ?_
                            refine wpL_join 4 (fun ρ w => ∃ x7 : Bool, Has ρ [(1, (.int .i64 who1)), (6, (.pointer (some p1))), (14, (.pointer (some a1))), (15, (.pointer (some a2))), (97, (.pointer r1)), (111, (.bool x7))] ∧ m_letter_reader_signed_j9 r1 who1 p1 a1 a2 x7 w K) ?_ ?_
                            · rintro ρ w ⟨x7, hH, h⟩
                              unfold m_letter_reader_signed_j9 at h
                              refine wpL_has hH ?_
                              clear hH
                              refine q0 (.bool x7) ?_
                              refine wpL_join 6 (fun ρ w => ∃ x8 : Bool, Has ρ [(1, (.int .i64 who1)), (6, (.pointer (some p1))), (14, (.pointer (some a1))), (15, (.pointer (some a2))), (97, (.pointer r1)), (118, (.bool x8))] ∧ m_letter_reader_signed_j10 r1 who1 p1 a1 a2 x8 w K) ?_ ?_
                              · rintro ρ w ⟨x8, hH, h⟩
                                unfold m_letter_reader_signed_j10 at h
                                refine wpL_has hH ?_
                                clear hH
                                refine q0 (.bool x8) ?_
                                rcases Bool.eq_false_or_eq_true x8 with hg2 | hg2
                                · replace h := h.1 hg2
                                  refine st_not (unwant rfl (yD 119 hg2) rfl) ?_
                                  refine st_not (unwant rfl (yD 119 hg2) rfl) ?_
                                  refine st_not (unwant rfl (yD 119 hg2) rfl) ?_
                                  refine st_not (unwant rfl (yD 119 hg2) rfl) ?_
                                  refine st_not (unwant rfl (yD 119 hg2) rfl) ?_
                                  refine q2 (.bool true) (x_pickT (b := x8) (by kernel_rfl) hg2 (by kernel_rfl)) ?_
                                  obtain ⟨a4, hp9, h⟩ := h
                                  refine q2 (.pointer (some a4)) (x_nilCheck (p := r1) (by kernel_rfl) hp9) ?_
                                  refine q0 (.pointer (some (a4.add 1))) ?_
                                  obtain ⟨hp10, h⟩ := h
                                  refine st_set (want0 rfl) (x_store (a := (a4.add 1)) (v := (.bool true)) (by kernel_rfl) (by kernel_rfl) rfl (Try.sizeOf4 _) hp10) ?_
                                  intro w16 hn8
                                  replace h := h w16 hn8
                                  refine wpL_nil ?_
                                  refine th_n ?_
                                  exact ⟨Has.mk (by kernel_rfl), h⟩
                                · replace h := h.2 hg2
                                  refine q1 (.pointer (some (a1.add 3))) (want1 rfl (yD 119 hg2)) ?_
                                  obtain ⟨v6, hv12, h⟩ := h
                                  refine stp (v := (.string v6)) (want1 rfl (yD 119 hg2)) (x_load (a := (a1.add 3)) (by kernel_rfl) (Try.isAgg9 _) hv12) ?_
                                  refine q1 (.pointer (some (a2.add 3))) (want1 rfl (yD 119 hg2)) ?_
                                  obtain ⟨v7, hv11, h⟩ := h
                                  refine stp (v := (.string v7)) (want1 rfl (yD 119 hg2)) (x_load (a := (a2.add 3)) (by kernel_rfl) (Try.isAgg9 _) hv11) ?_
                                  refine stp (v := (.bool (!(decide (v6 = v7))))) (want1 rfl (yD 119 hg2)) (x_strneq (by kernel_rfl) (by kernel_rfl)) ?_
                                  refine q2 (.bool (!(decide (v6 = v7)))) (x_pickF (b := x8) (by kernel_rfl) hg2 (by kernel_rfl)) ?_
                                  obtain ⟨a5, hp11, h⟩ := h
                                  refine q2 (.pointer (some a5)) (x_nilCheck (p := r1) (by kernel_rfl) hp11) ?_
                                  refine q0 (.pointer (some (a5.add 1))) ?_
                                  obtain ⟨hp12, h⟩ := h
                                  refine st_set (want0 rfl) (x_store (a := (a5.add 1)) (v := (.bool (!(decide (v6 = v7))))) (by kernel_rfl) (by kernel_rfl) rfl (Try.sizeOf4 _) hp12) ?_
                                  intro w17 hn9
                                  replace h := h w17 hn9
                                  refine wpL_nil ?_
                                  refine th_n ?_
                                  exact ⟨Has.mk (by kernel_rfl), h⟩
                              · skip
                                rcases Bool.eq_false_or_eq_true x7 with hg3 | hg3
                                · replace h := h.1 hg3
                                  refine st_not (unwant rfl (yD 112 hg3) rfl) ?_
                                  refine st_not (unwant rfl (yD 112 hg3) rfl) ?_
                                  refine st_not (unwant rfl (yD 112 hg3) rfl) ?_
                                  refine st_not (unwant rfl (yD 112 hg3) rfl) ?_
                                  refine st_not (unwant rfl (yD 112 hg3) rfl) ?_
                                  refine q2 (.bool true) (x_pickT (b := x7) (by kernel_rfl) hg3 (by kernel_rfl)) ?_
                                  refine wpL_nil ?_
                                  exact ⟨true, Has.mk (by kernel_rfl), h⟩
                                · replace h := h.2 hg3
                                  refine q1 (.pointer (some (a1.add 2))) (want1 rfl (yD 112 hg3)) ?_
                                  obtain ⟨v8, hv14, h⟩ := h
                                  refine stp (v := (.int .u64 v8)) (want1 rfl (yD 112 hg3)) (x_load (a := (a1.add 2)) (by kernel_rfl) (Try.isAgg38 _) hv14) ?_
                                  refine q1 (.pointer (some (a2.add 2))) (want1 rfl (yD 112 hg3)) ?_
                                  obtain ⟨v9, hv13, h⟩ := h
                                  refine stp (v := (.int .u64 v9)) (want1 rfl (yD 112 hg3)) (x_load (a := (a2.add 2)) (by kernel_rfl) (Try.isAgg38 _) hv13) ?_
                                  refine q1 (.bool ((v8 : Int) != v9)) (want1 rfl (yD 112 hg3)) ?_
                                  refine q2 (.bool ((v8 : Int) != v9)) (x_pickF (b := x7) (by kernel_rfl) hg3 (by kernel_rfl)) ?_
                                  refine wpL_nil ?_
                                  exact ⟨((v8 : Int) != v9), Has.mk (by kernel_rfl), h⟩
                            · skip
                              rcases Bool.eq_false_or_eq_true x6 with hg4 | hg4
                              · replace h := h.1 hg4
                                refine st_not (unwant rfl (yD 107 hg4) rfl) ?_
                                refine st_not (unwant rfl (yD 107 hg4) rfl) ?_
                                refine st_not (unwant rfl (yD 107 hg4) rfl) ?_
                                refine q2 (.bool true) (x_pickT (b := x6) (by kernel_rfl) hg4 (by kernel_rfl)) ?_
                                refine wpL_nil ?_
                                exact ⟨true, Has.mk (by kernel_rfl), h⟩
                              · replace h := h.2 hg4
                                refine q1 (.pointer (some (a2.add 1))) (want1 rfl (yD 107 hg4)) ?_
                                obtain ⟨v10, hv15, h⟩ := h
                                refine stp (v := (.int .i64 v10)) (want1 rfl (yD 107 hg4)) (x_load (a := (a2.add 1)) (by kernel_rfl) (Try.isAgg3 _) hv15) ?_
                                refine q1 (.bool ((v10 : Int) != 1)) (want1 rfl (yD 107 hg4)) ?_
                                refine q2 (.bool ((v10 : Int) != 1)) (x_pickF (b := x6) (by kernel_rfl) hg4 (by kernel_rfl)) ?_
                                refine wpL_nil ?_
                                exact ⟨((v10 : Int) != 1), Has.mk (by kernel_rfl), h⟩
                          · skip
                            rcases Bool.eq_false_or_eq_true v5 with hg5 | hg5
                            · replace h := h.1 hg5
                              refine st_not (unwant rfl (yD 102 hg5) rfl) ?_
                              refine st_not (unwant rfl (yD 102 hg5) rfl) ?_
                              refine st_not (unwant rfl (yD 102 hg5) rfl) ?_
                              refine q2 (.bool true) (x_pickT (b := v5) (by kernel_rfl) hg5 (by kernel_rfl)) ?_
                              refine wpL_nil ?_
                              exact ⟨true, Has.mk (by kernel_rfl), h⟩
                            · replace h := h.2 hg5
                              refine q1 (.pointer (some (a1.add 1))) (want1 rfl (yD 102 hg5)) ?_
                              obtain ⟨v11, hv16, h⟩ := h
                              refine stp (v := (.int .i64 v11)) (want1 rfl (yD 102 hg5)) (x_load (a := (a1.add 1)) (by kernel_rfl) (Try.isAgg3 _) hv16) ?_
                              refine q1 (.bool ((v11 : Int) != 0)) (want1 rfl (yD 102 hg5)) ?_
                              refine q2 (.bool ((v11 : Int) != 0)) (x_pickF (b := v5) (by kernel_rfl) hg5 (by kernel_rfl)) ?_
                              refine wpL_nil ?_
                              exact ⟨((v11 : Int) != 0), Has.mk (by kernel_rfl), h⟩
                      · skip
                        obtain ⟨C1, hC, h⟩ := h
                        refine wpE_drawnC C1 [3, 7, 8, 9, 10, 11] [7, 10, 11] (by kernel_rfl) (by kernel_rfl) (by kernel_rfl) (by kernel_rfl) hC ?_
                        clear hC
                        intro w18 hw18
                        replace h := h w18 hw18
                        refine qx 0 (.pointer r1) Kp0 ?_
                        refine qx 1 (.pointer (some (p2.add 5))) Kp1 ?_
                        refine qgo (k := 2) (by kernel_rfl) ?_
                        obtain ⟨v12, hv19, h⟩ := h
                        refine sx (v := (.int .i64 v12)) Kp2 (want0 rfl) (by kernel_rfl) (fun w' hw' => (x_load (a := (p2.add 5)) (by kernel_rfl) (Try.isAgg41 _) (hv19 w' hw'))) ?_
                        refine qx 4 (.pointer r1) Kp4 ?_
                        refine qx 5 (.pointer (some (p2.add 6))) Kp5 ?_
                        refine qgo (k := 6) (by kernel_rfl) ?_
                        obtain ⟨v13, hv18, h⟩ := h
                        refine sx (v := (.int .i64 v13)) Kp6 (want0 rfl) (by kernel_rfl) (fun w' hw' => (x_load (a := (p2.add 6)) (by kernel_rfl) (Try.isAgg41 _) (hv18 w' hw'))) ?_
                        refine lgo3 (k := 3) (k' := 8) (k'' := 9) (by kernel_rfl) ?_ ?_ ?_
                        · replace h := h.1
                          refine sl_call Kp3 (want0 rfl) (by kernel_rfl) (x_callE (args := #[(.pointer r1), (.int .i64 v12)]) Try.call166 (by kernel_rfl)) (h.mono ?_)
                          clear h
                          rintro e w19 ⟨rKind4, rFrom4, rC1, rText4, rFake1, rfl, hC, h⟩
                          refine ⟨_, rfl, .inr hC, ?_⟩
                          refine lgo3 (k := 7) (k' := 8) (k'' := 9) (by kernel_rfl) ?_ ?_ ?_
                          · replace h := h.1
                            refine sl_call Kp7 (want0 rfl) (by kernel_rfl) (x_callE (args := #[(.pointer r1), (.int .i64 v13)]) Try.call166 (by kernel_rfl)) (h.mono ?_)
                            clear h
                            rintro e w20 ⟨rKind5, rFrom5, rC2, rText5, rFake2, rfl, h⟩
                            refine ⟨_, rfl, .inl (by kernel_rfl), ?_⟩
                            refine lgo2 (k := 8) (k' := 9) (by kernel_rfl) ?_ ?_
                            · replace h := h.1
                              refine sl_new (O := (.cells #[(.int .i64 0), (.int .i64 0), (.int .u64 0), (.string (⟨#[]⟩ : ByteArray)), (.bool false)] 132)) (fun p => .pointer (some p)) Kp8 (want0 rfl) (by kernel_rfl) (x_alloc (Try.zeroValue132 _) rfl) ?_
                              intro p3 w21 hn13
                              replace h := h p3 w21 hn13
                              refine ⟨.inr h.1, ?_⟩
                              replace h := h.2
                              refine lgo (k := 9) (by kernel_rfl) ?_
                              refine sl_new (O := (.cells #[(.int .i64 0), (.int .i64 0), (.int .u64 0), (.string (⟨#[]⟩ : ByteArray)), (.bool false)] 132)) (fun p => .pointer (some p)) Kp9 (want0 rfl) (by kernel_rfl) (x_alloc (Try.zeroValue132 _) rfl) ?_
                              intro p4 w22 hn12
                              replace h := h p4 w22 hn12
                              refine ⟨.inr h.1, ?_⟩
                              replace h := h.2
                              refine lgo (k := 10) (by kernel_rfl) ?_
                              obtain ⟨hp13, h⟩ := h
                              refine sl_set (pickA (pickS (pickS (pickS (pickS (pickS (pickS (pickS (pickS (pickS (pickS pickZ))))))))))) (want0 rfl) (by kernel_rfl) (x_storeA (a := p3) (vs := [(.int .i64 rKind4), (.int .i64 rFrom4), (.int .u64 rC1), (.string rText4), (.bool rFake1)]) (by kernel_rfl) (by kernel_rfl) rfl (Try.sizeOf132 _) rfl hp13) ?_
                              intro w23 hn10
                              replace h := h w23 hn10
                              refine ⟨.inl (by kernel_rfl), ?_⟩
                              refine lgo (k := 11) (by kernel_rfl) ?_
                              obtain ⟨hp14, h⟩ := h
                              refine sl_set (pickA (pickS (pickS (pickS (pickS (pickS (pickS (pickS (pickS (pickS (pickS (pickS pickZ)))))))))))) (want0 rfl) (by kernel_rfl) (x_storeA (a := p4) (vs := [(.int .i64 rKind5), (.int .i64 rFrom5), (.int .u64 rC2), (.string rText5), (.bool rFake2)]) (by kernel_rfl) (by kernel_rfl) rfl (Try.sizeOf132 _) rfl hp14) ?_
                              intro w24 hn11
                              replace h := h w24 hn11
                              refine ⟨.inl (by kernel_rfl), ?_⟩
                              refine wpX_nil (by kernel_rfl) ?_
                              refine th_n ?_
                              exact ⟨p3, p4, Has.mk (by kernel_rfl), h⟩
                            · replace h := h.2
                              refine sl_new (O := (.cells #[(.int .i64 0), (.int .i64 0), (.int .u64 0), (.string (⟨#[]⟩ : ByteArray)), (.bool false)] 132)) (fun p => .pointer (some p)) Kp9 (want0 rfl) (by kernel_rfl) (x_alloc (Try.zeroValue132 _) rfl) ?_
                              intro p5 w25 hn17
                              replace h := h p5 w25 hn17
                              refine ⟨.inr h.1, ?_⟩
                              replace h := h.2
                              refine lgo (k := 8) (by kernel_rfl) ?_
                              refine sl_new (O := (.cells #[(.int .i64 0), (.int .i64 0), (.int .u64 0), (.string (⟨#[]⟩ : ByteArray)), (.bool false)] 132)) (fun p => .pointer (some p)) Kp8 (want0 rfl) (by kernel_rfl) (x_alloc (Try.zeroValue132 _) rfl) ?_
                              intro p6 w26 hn16
                              replace h := h p6 w26 hn16
                              refine ⟨.inr h.1, ?_⟩
                              replace h := h.2
                              refine lgo (k := 10) (by kernel_rfl) ?_
                              obtain ⟨hp15, h⟩ := h
                              refine sl_set (pickA (pickS (pickS (pickS (pickS (pickS (pickS (pickS (pickS (pickS (pickS pickZ))))))))))) (want0 rfl) (by kernel_rfl) (x_storeA (a := p6) (vs := [(.int .i64 rKind4), (.int .i64 rFrom4), (.int .u64 rC1), (.string rText4), (.bool rFake1)]) (by kernel_rfl) (by kernel_rfl) rfl (Try.sizeOf132 _) rfl hp15) ?_
                              intro w27 hn14
                              replace h := h w27 hn14
                              refine ⟨.inl (by kernel_rfl), ?_⟩
                              refine lgo (k := 11) (by kernel_rfl) ?_
                              obtain ⟨hp16, h⟩ := h
                              refine sl_set (pickA (pickS (pickS (pickS (pickS (pickS (pickS (pickS (pickS (pickS (pickS (pickS pickZ)))))))))))) (want0 rfl) (by kernel_rfl) (x_storeA (a := p5) (vs := [(.int .i64 rKind5), (.int .i64 rFrom5), (.int .u64 rC2), (.string rText5), (.bool rFake2)]) (by kernel_rfl) (by kernel_rfl) rfl (Try.sizeOf132 _) rfl hp16) ?_
                              intro w28 hn15
                              replace h := h w28 hn15
                              refine ⟨.inl (by kernel_rfl), ?_⟩
                              refine wpX_nil (by kernel_rfl) ?_
                              refine th_n ?_
                              exact ⟨p6, p5, Has.mk (by kernel_rfl), h⟩
                          · replace h := h.2.1
                            refine sl_new (O := (.cells #[(.int .i64 0), (.int .i64 0), (.int .u64 0), (.string (⟨#[]⟩ : ByteArray)), (.bool false)] 132)) (fun p => .pointer (some p)) Kp8 (want0 rfl) (by kernel_rfl) (x_alloc (Try.zeroValue132 _) rfl) ?_
                            intro p7 w29 hn24
                            replace h := h p7 w29 hn24
                            refine ⟨.inr h.1, ?_⟩
                            replace h := h.2
                            refine lgo2 (k := 7) (k' := 9) (by kernel_rfl) ?_ ?_
                            · replace h := h.1
                              refine sl_call Kp7 (want0 rfl) (by kernel_rfl) (x_callE (args := #[(.pointer r1), (.int .i64 v13)]) Try.call166 (by kernel_rfl)) (h.mono ?_)
                              clear h
                              rintro e w30 ⟨rKind6, rFrom6, rC3, rText6, rFake3, rfl, h⟩
                              refine ⟨_, rfl, .inl (by kernel_rfl), ?_⟩
                              refine lgo (k := 9) (by kernel_rfl) ?_
                              refine sl_new (O := (.cells #[(.int .i64 0), (.int .i64 0), (.int .u64 0), (.string (⟨#[]⟩ : ByteArray)), (.bool false)] 132)) (fun p => .pointer (some p)) Kp9 (want0 rfl) (by kernel_rfl) (x_alloc (Try.zeroValue132 _) rfl) ?_
                              intro p8 w31 hn20
                              replace h := h p8 w31 hn20
                              refine ⟨.inr h.1, ?_⟩
                              replace h := h.2
                              refine lgo (k := 10) (by kernel_rfl) ?_
                              obtain ⟨hp17, h⟩ := h
                              refine sl_set (pickA (pickS (pickS (pickS (pickS (pickS (pickS (pickS (pickS (pickS (pickS pickZ))))))))))) (want0 rfl) (by kernel_rfl) (x_storeA (a := p7) (vs := [(.int .i64 rKind4), (.int .i64 rFrom4), (.int .u64 rC1), (.string rText4), (.bool rFake1)]) (by kernel_rfl) (by kernel_rfl) rfl (Try.sizeOf132 _) rfl hp17) ?_
                              intro w32 hn18
                              replace h := h w32 hn18
                              refine ⟨.inl (by kernel_rfl), ?_⟩
                              refine lgo (k := 11) (by kernel_rfl) ?_
                              obtain ⟨hp18, h⟩ := h
                              refine sl_set (pickA (pickS (pickS (pickS (pickS (pickS (pickS (pickS (pickS (pickS (pickS (pickS pickZ)))))))))))) (want0 rfl) (by kernel_rfl) (x_storeA (a := p8) (vs := [(.int .i64 rKind6), (.int .i64 rFrom6), (.int .u64 rC3), (.string rText6), (.bool rFake3)]) (by kernel_rfl) (by kernel_rfl) rfl (Try.sizeOf132 _) rfl hp18) ?_
                              intro w33 hn19
                              replace h := h w33 hn19
                              refine ⟨.inl (by kernel_rfl), ?_⟩
                              refine wpX_nil (by kernel_rfl) ?_
                              refine th_n ?_
                              exact ⟨p7, p8, Has.mk (by kernel_rfl), h⟩
                            · replace h := h.2
                              refine sl_new (O := (.cells #[(.int .i64 0), (.int .i64 0), (.int .u64 0), (.string (⟨#[]⟩ : ByteArray)), (.bool false)] 132)) (fun p => .pointer (some p)) Kp9 (want0 rfl) (by kernel_rfl) (x_alloc (Try.zeroValue132 _) rfl) ?_
                              intro p9 w34 hn23
                              replace h := h p9 w34 hn23
                              refine ⟨.inr h.1, ?_⟩
                              replace h := h.2
                              refine lgo (k := 7) (by kernel_rfl) ?_
                              refine sl_call Kp7 (want0 rfl) (by kernel_rfl) (x_callE (args := #[(.pointer r1), (.int .i64 v13)]) Try.call166 (by kernel_rfl)) (h.mono ?_)
                              clear h
                              rintro e w35 ⟨rKind7, rFrom7, rC4, rText7, rFake4, rfl, h⟩
                              refine ⟨_, rfl, .inl (by kernel_rfl), ?_⟩
                              refine lgo (k := 10) (by kernel_rfl) ?_
                              obtain ⟨hp19, h⟩ := h
                              refine sl_set (pickA (pickS (pickS (pickS (pickS (pickS (pickS (pickS (pickS (pickS (pickS pickZ))))))))))) (want0 rfl) (by kernel_rfl) (x_storeA (a := p7) (vs := [(.int .i64 rKind4), (.int .i64 rFrom4), (.int .u64 rC1), (.string rText4), (.bool rFake1)]) (by kernel_rfl) (by kernel_rfl) rfl (Try.sizeOf132 _) rfl hp19) ?_
                              intro w36 hn21
                              replace h := h w36 hn21
                              refine ⟨.inl (by kernel_rfl), ?_⟩
                              refine lgo (k := 11) (by kernel_rfl) ?_
                              obtain ⟨hp20, h⟩ := h
                              refine sl_set (pickA (pickS (pickS (pickS (pickS (pickS (pickS (pickS (pickS (pickS (pickS (pickS pickZ)))))))))))) (want0 rfl) (by kernel_rfl) (x_storeA (a := p9) (vs := [(.int .i64 rKind7), (.int .i64 rFrom7), (.int .u64 rC4), (.string rText7), (.bool rFake4)]) (by kernel_rfl) (by kernel_rfl) rfl (Try.sizeOf132 _) rfl hp20) ?_
                              intro w37 hn22
                              replace h := h w37 hn22
                              refine ⟨.inl (by kernel_rfl), ?_⟩
                              refine wpX_nil (by kernel_rfl) ?_
                              refine th_n ?_
                              exact ⟨p7, p9, Has.mk (by kernel_rfl), h⟩
                          · replace h := h.2.2
                            refine sl_new (O := (.cells #[(.int .i64 0), (.int .i64 0), (.int .u64 0), (.string (⟨#[]⟩ : ByteArray)), (.bool false)] 132)) (fun p => .pointer (some p)) Kp9 (want0 rfl) (by kernel_rfl) (x_alloc (Try.zeroValue132 _) rfl) ?_
                            intro p10 w38 hn31
                            replace h := h p10 w38 hn31
                            refine ⟨.inr h.1, ?_⟩
                            replace h := h.2
                            refine lgo2 (k := 7) (k' := 8) (by kernel_rfl) ?_ ?_
                            · replace h := h.1
                              refine sl_call Kp7 (want0 rfl) (by kernel_rfl) (x_callE (args := #[(.pointer r1), (.int .i64 v13)]) Try.call166 (by kernel_rfl)) (h.mono ?_)
                              clear h
                              rintro e w39 ⟨rKind8, rFrom8, rC5, rText8, rFake5, rfl, h⟩
                              refine ⟨_, rfl, .inl (by kernel_rfl), ?_⟩
                              refine lgo (k := 8) (by kernel_rfl) ?_
                              refine sl_new (O := (.cells #[(.int .i64 0), (.int .i64 0), (.int .u64 0), (.string (⟨#[]⟩ : ByteArray)), (.bool false)] 132)) (fun p => .pointer (some p)) Kp8 (want0 rfl) (by kernel_rfl) (x_alloc (Try.zeroValue132 _) rfl) ?_
                              intro p11 w40 hn27
                              replace h := h p11 w40 hn27
                              refine ⟨.inr h.1, ?_⟩
                              replace h := h.2
                              refine lgo (k := 10) (by kernel_rfl) ?_
                              obtain ⟨hp21, h⟩ := h
                              refine sl_set (pickA (pickS (pickS (pickS (pickS (pickS (pickS (pickS (pickS (pickS (pickS pickZ))))))))))) (want0 rfl) (by kernel_rfl) (x_storeA (a := p11) (vs := [(.int .i64 rKind4), (.int .i64 rFrom4), (.int .u64 rC1), (.string rText4), (.bool rFake1)]) (by kernel_rfl) (by kernel_rfl) rfl (Try.sizeOf132 _) rfl hp21) ?_
                              intro w41 hn25
                              replace h := h w41 hn25
                              refine ⟨.inl (by kernel_rfl), ?_⟩
                              refine lgo (k := 11) (by kernel_rfl) ?_
                              obtain ⟨hp22, h⟩ := h
                              refine sl_set (pickA (pickS (pickS (pickS (pickS (pickS (pickS (pickS (pickS (pickS (pickS (pickS pickZ)))))))))))) (want0 rfl) (by kernel_rfl) (x_storeA (a := p10) (vs := [(.int .i64 rKind8), (.int .i64 rFrom8), (.int .u64 rC5), (.string rText8), (.bool rFake5)]) (by kernel_rfl) (by kernel_rfl) rfl (Try.sizeOf132 _) rfl hp22) ?_
                              intro w42 hn26
                              replace h := h w42 hn26
                              refine ⟨.inl (by kernel_rfl), ?_⟩
                              refine wpX_nil (by kernel_rfl) ?_
                              refine th_n ?_
                              exact ⟨p11, p10, Has.mk (by kernel_rfl), h⟩
                            · replace h := h.2
                              refine sl_new (O := (.cells #[(.int .i64 0), (.int .i64 0), (.int .u64 0), (.string (⟨#[]⟩ : ByteArray)), (.bool false)] 132)) (fun p => .pointer (some p)) Kp8 (want0 rfl) (by kernel_rfl) (x_alloc (Try.zeroValue132 _) rfl) ?_
                              intro p12 w43 hn30
                              replace h := h p12 w43 hn30
                              refine ⟨.inr h.1, ?_⟩
                              replace h := h.2
                              refine lgo (k := 7) (by kernel_rfl) ?_
                              refine sl_call Kp7 (want0 rfl) (by kernel_rfl) (x_callE (args := #[(.pointer r1), (.int .i64 v13)]) Try.call166 (by kernel_rfl)) (h.mono ?_)
                              clear h
                              rintro e w44 ⟨rKind9, rFrom9, rC6, rText9, rFake6, rfl, h⟩
                              refine ⟨_, rfl, .inl (by kernel_rfl), ?_⟩
                              refine lgo (k := 10) (by kernel_rfl) ?_
                              obtain ⟨hp23, h⟩ := h
                              refine sl_set (pickA (pickS (pickS (pickS (pickS (pickS (pickS (pickS (pickS (pickS (pickS pickZ))))))))))) (want0 rfl) (by kernel_rfl) (x_storeA (a := p12) (vs := [(.int .i64 rKind4), (.int .i64 rFrom4), (.int .u64 rC1), (.string rText4), (.bool rFake1)]) (by kernel_rfl) (by kernel_rfl) rfl (Try.sizeOf132 _) rfl hp23) ?_
                              intro w45 hn28
                              replace h := h w45 hn28
                              refine ⟨.inl (by kernel_rfl), ?_⟩
                              refine lgo (k := 11) (by kernel_rfl) ?_
                              obtain ⟨hp24, h⟩ := h
                              refine sl_set (pickA (pickS (pickS (pickS (pickS (pickS (pickS (pickS (pickS (pickS (pickS (pickS pickZ)))))))))))) (want0 rfl) (by kernel_rfl) (x_storeA (a := p10) (vs := [(.int .i64 rKind9), (.int .i64 rFrom9), (.int .u64 rC6), (.string rText9), (.bool rFake6)]) (by kernel_rfl) (by kernel_rfl) rfl (Try.sizeOf132 _) rfl hp24) ?_
                              intro w46 hn29
                              replace h := h w46 hn29
                              refine ⟨.inl (by kernel_rfl), ?_⟩
                              refine wpX_nil (by kernel_rfl) ?_
                              refine th_n ?_
                              exact ⟨p12, p10, Has.mk (by kernel_rfl), h⟩
                        · replace h := h.2.1
                          refine sl_new (O := (.cells #[(.int .i64 0), (.int .i64 0), (.int .u64 0), (.string (⟨#[]⟩ : ByteArray)), (.bool false)] 132)) (fun p => .pointer (some p)) Kp8 (want0 rfl) (by kernel_rfl) (x_alloc (Try.zeroValue132 _) rfl) ?_
                          intro p13 w47 hn41
                          replace h := h p13 w47 hn41
                          refine ⟨.inr h.1, ?_⟩
                          replace h := h.2
                          refine lgo2 (k := 3) (k' := 9) (by kernel_rfl) ?_ ?_
                          · replace h := h.1
                            refine sl_call Kp3 (want0 rfl) (by kernel_rfl) (x_callE (args := #[(.pointer r1), (.int .i64 v12)]) Try.call166 (by kernel_rfl)) (h.mono ?_)
                            clear h
                            rintro e w48 ⟨rKind10, rFrom10, rC7, rText10, rFake7, rfl, hC, h⟩
                            refine ⟨_, rfl, .inr hC, ?_⟩
                            refine lgo2 (k := 7) (k' := 9) (by kernel_rfl) ?_ ?_
                            · replace h := h.1
                              refine sl_call Kp7 (want0 rfl) (by kernel_rfl) (x_callE (args := #[(.pointer r1), (.int .i64 v13)]) Try.call166 (by kernel_rfl)) (h.mono ?_)
                              clear h
                              rintro e w49 ⟨rKind11, rFrom11, rC8, rText11, rFake8, rfl, h⟩
                              refine ⟨_, rfl, .inl (by kernel_rfl), ?_⟩
                              refine lgo (k := 9) (by kernel_rfl) ?_
                              refine sl_new (O := (.cells #[(.int .i64 0), (.int .i64 0), (.int .u64 0), (.string (⟨#[]⟩ : ByteArray)), (.bool false)] 132)) (fun p => .pointer (some p)) Kp9 (want0 rfl) (by kernel_rfl) (x_alloc (Try.zeroValue132 _) rfl) ?_
                              intro p14 w50 hn34
                              replace h := h p14 w50 hn34
                              refine ⟨.inr h.1, ?_⟩
                              replace h := h.2
                              refine lgo (k := 10) (by kernel_rfl) ?_
                              obtain ⟨hp25, h⟩ := h
                              refine sl_set (pickA (pickS (pickS (pickS (pickS (pickS (pickS (pickS (pickS (pickS (pickS pickZ))))))))))) (want0 rfl) (by kernel_rfl) (x_storeA (a := p13) (vs := [(.int .i64 rKind10), (.int .i64 rFrom10), (.int .u64 rC7), (.string rText10), (.bool rFake7)]) (by kernel_rfl) (by kernel_rfl) rfl (Try.sizeOf132 _) rfl hp25) ?_
                              intro w51 hn32
                              replace h := h w51 hn32
                              refine ⟨.inl (by kernel_rfl), ?_⟩
                              refine lgo (k := 11) (by kernel_rfl) ?_
                              obtain ⟨hp26, h⟩ := h
                              refine sl_set (pickA (pickS (pickS (pickS (pickS (pickS (pickS (pickS (pickS (pickS (pickS (pickS pickZ)))))))))))) (want0 rfl) (by kernel_rfl) (x_storeA (a := p14) (vs := [(.int .i64 rKind11), (.int .i64 rFrom11), (.int .u64 rC8), (.string rText11), (.bool rFake8)]) (by kernel_rfl) (by kernel_rfl) rfl (Try.sizeOf132 _) rfl hp26) ?_
                              intro w52 hn33
                              replace h := h w52 hn33
                              refine ⟨.inl (by kernel_rfl), ?_⟩
                              refine wpX_nil (by kernel_rfl) ?_
                              refine th_n ?_
                              exact ⟨p13, p14, Has.mk (by kernel_rfl), h⟩
                            · replace h := h.2
                              refine sl_new (O := (.cells #[(.int .i64 0), (.int .i64 0), (.int .u64 0), (.string (⟨#[]⟩ : ByteArray)), (.bool false)] 132)) (fun p => .pointer (some p)) Kp9 (want0 rfl) (by kernel_rfl) (x_alloc (Try.zeroValue132 _) rfl) ?_
                              intro p15 w53 hn37
                              replace h := h p15 w53 hn37
                              refine ⟨.inr h.1, ?_⟩
                              replace h := h.2
                              refine lgo (k := 7) (by kernel_rfl) ?_
                              refine sl_call Kp7 (want0 rfl) (by kernel_rfl) (x_callE (args := #[(.pointer r1), (.int .i64 v13)]) Try.call166 (by kernel_rfl)) (h.mono ?_)
                              clear h
                              rintro e w54 ⟨rKind12, rFrom12, rC9, rText12, rFake9, rfl, h⟩
                              refine ⟨_, rfl, .inl (by kernel_rfl), ?_⟩
                              refine lgo (k := 10) (by kernel_rfl) ?_
                              obtain ⟨hp27, h⟩ := h
                              refine sl_set (pickA (pickS (pickS (pickS (pickS (pickS (pickS (pickS (pickS (pickS (pickS pickZ))))))))))) (want0 rfl) (by kernel_rfl) (x_storeA (a := p13) (vs := [(.int .i64 rKind10), (.int .i64 rFrom10), (.int .u64 rC7), (.string rText10), (.bool rFake7)]) (by kernel_rfl) (by kernel_rfl) rfl (Try.sizeOf132 _) rfl hp27) ?_
                              intro w55 hn35
                              replace h := h w55 hn35
                              refine ⟨.inl (by kernel_rfl), ?_⟩
                              refine lgo (k := 11) (by kernel_rfl) ?_
                              obtain ⟨hp28, h⟩ := h
                              refine sl_set (pickA (pickS (pickS (pickS (pickS (pickS (pickS (pickS (pickS (pickS (pickS (pickS pickZ)))))))))))) (want0 rfl) (by kernel_rfl) (x_storeA (a := p15) (vs := [(.int .i64 rKind12), (.int .i64 rFrom12), (.int .u64 rC9), (.string rText12), (.bool rFake9)]) (by kernel_rfl) (by kernel_rfl) rfl (Try.sizeOf132 _) rfl hp28) ?_
                              intro w56 hn36
                              replace h := h w56 hn36
                              refine ⟨.inl (by kernel_rfl), ?_⟩
                              refine wpX_nil (by kernel_rfl) ?_
                              refine th_n ?_
                              exact ⟨p13, p15, Has.mk (by kernel_rfl), h⟩
                          · replace h := h.2
                            refine sl_new (O := (.cells #[(.int .i64 0), (.int .i64 0), (.int .u64 0), (.string (⟨#[]⟩ : ByteArray)), (.bool false)] 132)) (fun p => .pointer (some p)) Kp9 (want0 rfl) (by kernel_rfl) (x_alloc (Try.zeroValue132 _) rfl) ?_
                            intro p16 w57 hn40
                            replace h := h p16 w57 hn40
                            refine ⟨.inr h.1, ?_⟩
                            replace h := h.2
                            refine lgo (k := 3) (by kernel_rfl) ?_
                            refine sl_call Kp3 (want0 rfl) (by kernel_rfl) (x_callE (args := #[(.pointer r1), (.int .i64 v12)]) Try.call166 (by kernel_rfl)) (h.mono ?_)
                            clear h
                            rintro e w58 ⟨rKind13, rFrom13, rC10, rText13, rFake10, rfl, hC, h⟩
                            refine ⟨_, rfl, .inr hC, ?_⟩
                            refine lgo (k := 7) (by kernel_rfl) ?_
                            refine sl_call Kp7 (want0 rfl) (by kernel_rfl) (x_callE (args := #[(.pointer r1), (.int .i64 v13)]) Try.call166 (by kernel_rfl)) (h.mono ?_)
                            clear h
                            rintro e w59 ⟨rKind14, rFrom14, rC11, rText14, rFake11, rfl, h⟩
                            refine ⟨_, rfl, .inl (by kernel_rfl), ?_⟩
                            refine lgo (k := 10) (by kernel_rfl) ?_
                            obtain ⟨hp29, h⟩ := h
                            refine sl_set (pickA (pickS (pickS (pickS (pickS (pickS (pickS (pickS (pickS (pickS (pickS pickZ))))))))))) (want0 rfl) (by kernel_rfl) (x_storeA (a := p13) (vs := [(.int .i64 rKind13), (.int .i64 rFrom13), (.int .u64 rC10), (.string rText13), (.bool rFake10)]) (by kernel_rfl) (by kernel_rfl) rfl (Try.sizeOf132 _) rfl hp29) ?_
                            intro w60 hn38
                            replace h := h w60 hn38
                            refine ⟨.inl (by kernel_rfl), ?_⟩
                            refine lgo (k := 11) (by kernel_rfl) ?_
                            obtain ⟨hp30, h⟩ := h
                            refine sl_set (pickA (pickS (pickS (pickS (pickS (pickS (pickS (pickS (pickS (pickS (pickS (pickS pickZ)))))))))))) (want0 rfl) (by kernel_rfl) (x_storeA (a := p16) (vs := [(.int .i64 rKind14), (.int .i64 rFrom14), (.int .u64 rC11), (.string rText14), (.bool rFake11)]) (by kernel_rfl) (by kernel_rfl) rfl (Try.sizeOf132 _) rfl hp30) ?_
                            intro w61 hn39
                            replace h := h w61 hn39
                            refine ⟨.inl (by kernel_rfl), ?_⟩
                            refine wpX_nil (by kernel_rfl) ?_
                            refine th_n ?_
                            exact ⟨p13, p16, Has.mk (by kernel_rfl), h⟩
                        · replace h := h.2.2
                          refine sl_new (O := (.cells #[(.int .i64 0), (.int .i64 0), (.int .u64 0), (.string (⟨#[]⟩ : ByteArray)), (.bool false)] 132)) (fun p => .pointer (some p)) Kp9 (want0 rfl) (by kernel_rfl) (x_alloc (Try.zeroValue132 _) rfl) ?_
                          intro p17 w62 hn51
                          replace h := h p17 w62 hn51
                          refine ⟨.inr h.1, ?_⟩
                          replace h := h.2
                          refine lgo2 (k := 3) (k' := 8) (by kernel_rfl) ?_ ?_
                          · replace h := h.1
                            refine sl_call Kp3 (want0 rfl) (by kernel_rfl) (x_callE (args := #[(.pointer r1), (.int .i64 v12)]) Try.call166 (by kernel_rfl)) (h.mono ?_)
                            clear h
                            rintro e w63 ⟨rKind15, rFrom15, rC12, rText15, rFake12, rfl, hC, h⟩
                            refine ⟨_, rfl, .inr hC, ?_⟩
                            refine lgo2 (k := 7) (k' := 8) (by kernel_rfl) ?_ ?_
                            · replace h := h.1
                              refine sl_call Kp7 (want0 rfl) (by kernel_rfl) (x_callE (args := #[(.pointer r1), (.int .i64 v13)]) Try.call166 (by kernel_rfl)) (h.mono ?_)
                              clear h
                              rintro e w64 ⟨rKind16, rFrom16, rC13, rText16, rFake13, rfl, h⟩
                              refine ⟨_, rfl, .inl (by kernel_rfl), ?_⟩
                              refine lgo (k := 8) (by kernel_rfl) ?_
                              refine sl_new (O := (.cells #[(.int .i64 0), (.int .i64 0), (.int .u64 0), (.string (⟨#[]⟩ : ByteArray)), (.bool false)] 132)) (fun p => .pointer (some p)) Kp8 (want0 rfl) (by kernel_rfl) (x_alloc (Try.zeroValue132 _) rfl) ?_
                              intro p18 w65 hn44
                              replace h := h p18 w65 hn44
                              refine ⟨.inr h.1, ?_⟩
                              replace h := h.2
                              refine lgo (k := 10) (by kernel_rfl) ?_
                              obtain ⟨hp31, h⟩ := h
                              refine sl_set (pickA (pickS (pickS (pickS (pickS (pickS (pickS (pickS (pickS (pickS (pickS pickZ))))))))))) (want0 rfl) (by kernel_rfl) (x_storeA (a := p18) (vs := [(.int .i64 rKind15), (.int .i64 rFrom15), (.int .u64 rC12), (.string rText15), (.bool rFake12)]) (by kernel_rfl) (by kernel_rfl) rfl (Try.sizeOf132 _) rfl hp31) ?_
                              intro w66 hn42
                              replace h := h w66 hn42
                              refine ⟨.inl (by kernel_rfl), ?_⟩
                              refine lgo (k := 11) (by kernel_rfl) ?_
                              obtain ⟨hp32, h⟩ := h
                              refine sl_set (pickA (pickS (pickS (pickS (pickS (pickS (pickS (pickS (pickS (pickS (pickS (pickS pickZ)))))))))))) (want0 rfl) (by kernel_rfl) (x_storeA (a := p17) (vs := [(.int .i64 rKind16), (.int .i64 rFrom16), (.int .u64 rC13), (.string rText16), (.bool rFake13)]) (by kernel_rfl) (by kernel_rfl) rfl (Try.sizeOf132 _) rfl hp32) ?_
                              intro w67 hn43
                              replace h := h w67 hn43
                              refine ⟨.inl (by kernel_rfl), ?_⟩
                              refine wpX_nil (by kernel_rfl) ?_
                              refine th_n ?_
                              exact ⟨p18, p17, Has.mk (by kernel_rfl), h⟩
                            · replace h := h.2
                              refine sl_new (O := (.cells #[(.int .i64 0), (.int .i64 0), (.int .u64 0), (.string (⟨#[]⟩ : ByteArray)), (.bool false)] 132)) (fun p => .pointer (some p)) Kp8 (want0 rfl) (by kernel_rfl) (x_alloc (Try.zeroValue132 _) rfl) ?_
                              intro p19 w68 hn47
                              replace h := h p19 w68 hn47
                              refine ⟨.inr h.1, ?_⟩
                              replace h := h.2
                              refine lgo (k := 7) (by kernel_rfl) ?_
                              refine sl_call Kp7 (want0 rfl) (by kernel_rfl) (x_callE (args := #[(.pointer r1), (.int .i64 v13)]) Try.call166 (by kernel_rfl)) (h.mono ?_)
                              clear h
                              rintro e w69 ⟨rKind17, rFrom17, rC14, rText17, rFake14, rfl, h⟩
                              refine ⟨_, rfl, .inl (by kernel_rfl), ?_⟩
                              refine lgo (k := 10) (by kernel_rfl) ?_
                              obtain ⟨hp33, h⟩ := h
                              refine sl_set (pickA (pickS (pickS (pickS (pickS (pickS (pickS (pickS (pickS (pickS (pickS pickZ))))))))))) (want0 rfl) (by kernel_rfl) (x_storeA (a := p19) (vs := [(.int .i64 rKind15), (.int .i64 rFrom15), (.int .u64 rC12), (.string rText15), (.bool rFake12)]) (by kernel_rfl) (by kernel_rfl) rfl (Try.sizeOf132 _) rfl hp33) ?_
                              intro w70 hn45
                              replace h := h w70 hn45
                              refine ⟨.inl (by kernel_rfl), ?_⟩
                              refine lgo (k := 11) (by kernel_rfl) ?_
                              obtain ⟨hp34, h⟩ := h
                              refine sl_set (pickA (pickS (pickS (pickS (pickS (pickS (pickS (pickS (pickS (pickS (pickS (pickS pickZ)))))))))))) (want0 rfl) (by kernel_rfl) (x_storeA (a := p17) (vs := [(.int .i64 rKind17), (.int .i64 rFrom17), (.int .u64 rC14), (.string rText17), (.bool rFake14)]) (by kernel_rfl) (by kernel_rfl) rfl (Try.sizeOf132 _) rfl hp34) ?_
                              intro w71 hn46
                              replace h := h w71 hn46
                              refine ⟨.inl (by kernel_rfl), ?_⟩
                              refine wpX_nil (by kernel_rfl) ?_
                              refine th_n ?_
                              exact ⟨p19, p17, Has.mk (by kernel_rfl), h⟩
                          · replace h := h.2
                            refine sl_new (O := (.cells #[(.int .i64 0), (.int .i64 0), (.int .u64 0), (.string (⟨#[]⟩ : ByteArray)), (.bool false)] 132)) (fun p => .pointer (some p)) Kp8 (want0 rfl) (by kernel_rfl) (x_alloc (Try.zeroValue132 _) rfl) ?_
                            intro p20 w72 hn50
                            replace h := h p20 w72 hn50
                            refine ⟨.inr h.1, ?_⟩
                            replace h := h.2
                            refine lgo (k := 3) (by kernel_rfl) ?_
                            refine sl_call Kp3 (want0 rfl) (by kernel_rfl) (x_callE (args := #[(.pointer r1), (.int .i64 v12)]) Try.call166 (by kernel_rfl)) (h.mono ?_)
                            clear h
                            rintro e w73 ⟨rKind18, rFrom18, rC15, rText18, rFake15, rfl, hC, h⟩
                            refine ⟨_, rfl, .inr hC, ?_⟩
                            refine lgo (k := 7) (by kernel_rfl) ?_
                            refine sl_call Kp7 (want0 rfl) (by kernel_rfl) (x_callE (args := #[(.pointer r1), (.int .i64 v13)]) Try.call166 (by kernel_rfl)) (h.mono ?_)
                            clear h
                            rintro e w74 ⟨rKind19, rFrom19, rC16, rText19, rFake16, rfl, h⟩
                            refine ⟨_, rfl, .inl (by kernel_rfl), ?_⟩
                            refine lgo (k := 10) (by kernel_rfl) ?_
                            obtain ⟨hp35, h⟩ := h
                            refine sl_set (pickA (pickS (pickS (pickS (pickS (pickS (pickS (pickS (pickS (pickS (pickS pickZ))))))))))) (want0 rfl) (by kernel_rfl) (x_storeA (a := p20) (vs := [(.int .i64 rKind18), (.int .i64 rFrom18), (.int .u64 rC15), (.string rText18), (.bool rFake15)]) (by kernel_rfl) (by kernel_rfl) rfl (Try.sizeOf132 _) rfl hp35) ?_
                            intro w75 hn48
                            replace h := h w75 hn48
                            refine ⟨.inl (by kernel_rfl), ?_⟩
                            refine lgo (k := 11) (by kernel_rfl) ?_
                            obtain ⟨hp36, h⟩ := h
                            refine sl_set (pickA (pickS (pickS (pickS (pickS (pickS (pickS (pickS (pickS (pickS (pickS (pickS pickZ)))))))))))) (want0 rfl) (by kernel_rfl) (x_storeA (a := p17) (vs := [(.int .i64 rKind19), (.int .i64 rFrom19), (.int .u64 rC16), (.string rText19), (.bool rFake16)]) (by kernel_rfl) (by kernel_rfl) rfl (Try.sizeOf132 _) rfl hp36) ?_
                            intro w76 hn49
                            replace h := h w76 hn49
                            refine ⟨.inl (by kernel_rfl), ?_⟩
                            refine wpX_nil (by kernel_rfl) ?_
                            refine th_n ?_
                            exact ⟨p20, p17, Has.mk (by kernel_rfl), h⟩
                    · replace h := h.2 hc5
                      refine wpE_skip ?_
                      refine bl_n ?_
                      refine th_n ?_
                      refine wpE_seq ?_
                      refine rg ?_
                      refine q0 (.pointer r1) ?_
                      obtain ⟨a6, hp37, h⟩ := h
                      refine q2 (.pointer (some a6)) (x_nilCheck (p := r1) (by kernel_rfl) hp37) ?_
                      refine q0 (.pointer (some (a6.add 1))) ?_
                      obtain ⟨hp38, h⟩ := h
                      refine st_set (want0 rfl) (x_store (a := (a6.add 1)) (v := (.bool true)) (by kernel_rfl) (by kernel_rfl) rfl (Try.sizeOf4 _) hp38) ?_
                      intro w77 hn53
                      replace h := h w77 hn53
                      refine wpL_nil ?_
                      refine th_n ?_
                      refine wpE_seq ?_
                      refine rg ?_
                      refine q0 (.agg #[(.int .i64 0), (.int .i64 0), (.int .u64 0), (.string (⟨#[]⟩ : ByteArray)), (.bool false)]) ?_
                      obtain ⟨hp39, h⟩ := h
                      refine st_set (want0 rfl) (x_storeA (a := p1) (vs := [(.int .i64 0), (.int .i64 0), (.int .u64 0), (.string (⟨#[]⟩ : ByteArray)), (.bool false)]) (by kernel_rfl) (by kernel_rfl) rfl (Try.sizeOf132 _) rfl hp39) ?_
                      intro w78 hn54
                      replace h := h w78 hn54
                      refine wpL_nil ?_
                      refine th_n ?_
                      refine wpE_ret ?_
                      obtain ⟨qKind7, qFrom7, qC7, qText7, qFake7, hv20, h⟩ := h
                      refine resG (.inl rfl) (rs := [.cell 6 132]) (vs := [(.agg #[(.int .i64 qKind7), (.int .i64 qFrom7), (.int .u64 qC7), (.string qText7), (.bool qFake7)])]) (v := (.agg #[(.int .i64 qKind7), (.int .i64 qFrom7), (.int .u64 qC7), (.string qText7), (.bool qFake7)])) Try.results165 ⟨(RV.cellA (A := p1) (vs := [(.int .i64 qKind7), (.int .i64 qFrom7), (.int .u64 qC7), (.string qText7), (.bool qFake7)]) (by kernel_rfl) (Try.isAgg132 _) (Try.sizeOf132 _) rfl hv20), trivial⟩ (by kernel_rfl) ?_
                      exact ⟨qKind7, qFrom7, qC7, qText7, qFake7, rfl, h⟩
                  · skip
                    refine rg ?_
                    refine q0 (.string r2) ?_
                    refine q2 (.bool (decide (r2 = (⟨#[114, 101, 115, 111, 108, 118, 101]⟩ : ByteArray)))) (x_streq (by kernel_rfl) (by kernel_rfl)) ?_
                    refine q0 (.bool (decide (r2 = (⟨#[114, 101, 115, 111, 108, 118, 101]⟩ : ByteArray)))) ?_
                    rcases Bool.eq_false_or_eq_true (decide (r2 = (⟨#[114, 101, 115, 111, 108, 118, 101]⟩ : ByteArray))) with hg6 | hg6
                    · replace h := h.1 hg6
                      refine q1 (.int .i64 who1) (want1 rfl (yD 82 hg6)) ?_
                      refine q1 (.bool (decide (who1 ≤ 1))) (want1 rfl (yD 82 hg6)) ?_
                      refine q2 (.bool (decide (who1 ≤ 1))) (x_pickT (b := (decide (r2 = (⟨#[114, 101, 115, 111, 108, 118, 101]⟩ : ByteArray)))) (by kernel_rfl) hg6 (by kernel_rfl)) ?_
                      refine q0 (.bool (decide (who1 ≤ 1))) ?_
                      refine wpL_nil ?_
                      refine th_n ?_
                      exact ⟨(decide (who1 ≤ 1)), Has.mk (by kernel_rfl), h⟩
                    · replace h := h.2 hg6
                      refine st_not (unwant rfl (yD 82 hg6) rfl) ?_
                      refine st_not (unwant rfl (yD 82 hg6) rfl) ?_
                      refine q2 (.bool false) (x_pickF (b := (decide (r2 = (⟨#[114, 101, 115, 111, 108, 118, 101]⟩ : ByteArray)))) (by kernel_rfl) hg6 (by kernel_rfl)) ?_
                      refine q0 (.bool false) ?_
                      refine wpL_nil ?_
                      refine th_n ?_
                      exact ⟨false, Has.mk (by kernel_rfl), h⟩
              · skip
                refine rg ?_
                refine q0 (.string r2) ?_
                refine q2 (.bool (decide (r2 = (⟨#[100, 101, 97, 108]⟩ : ByteArray)))) (x_streq (by kernel_rfl) (by kernel_rfl)) ?_
                refine q0 (.bool (decide (r2 = (⟨#[100, 101, 97, 108]⟩ : ByteArray)))) ?_
                rcases Bool.eq_false_or_eq_true (decide (r2 = (⟨#[100, 101, 97, 108]⟩ : ByteArray))) with hg7 | hg7
                · replace h := h.1 hg7
                  refine q1 (.int .i64 who1) (want1 rfl (yD 65 hg7)) ?_
                  refine q1 (.bool (decide (who1 ≤ 1))) (want1 rfl (yD 65 hg7)) ?_
                  refine q2 (.bool (decide (who1 ≤ 1))) (x_pickT (b := (decide (r2 = (⟨#[100, 101, 97, 108]⟩ : ByteArray)))) (by kernel_rfl) hg7 (by kernel_rfl)) ?_
                  refine q0 (.bool (decide (who1 ≤ 1))) ?_
                  refine wpL_nil ?_
                  refine th_n ?_
                  exact ⟨(decide (who1 ≤ 1)), Has.mk (by kernel_rfl), h⟩
                · replace h := h.2 hg7
                  refine st_not (unwant rfl (yD 65 hg7) rfl) ?_
                  refine st_not (unwant rfl (yD 65 hg7) rfl) ?_
                  refine q2 (.bool false) (x_pickF (b := (decide (r2 = (⟨#[100, 101, 97, 108]⟩ : ByteArray)))) (by kernel_rfl) hg7 (by kernel_rfl)) ?_
                  refine q0 (.bool false) ?_
                  refine wpL_nil ?_
                  refine th_n ?_
                  exact ⟨false, Has.mk (by kernel_rfl), h⟩
          · skip
            refine rg ?_
            refine q0 (.string r2) ?_
            refine q2 (.bool (decide (r2 = (⟨#[105, 110, 115, 116, 101, 97, 100]⟩ : ByteArray)))) (x_streq (by kernel_rfl) (by kernel_rfl)) ?_
            refine q0 (.bool (decide (r2 = (⟨#[105, 110, 115, 116, 101, 97, 100]⟩ : ByteArray)))) ?_
            rcases Bool.eq_false_or_eq_true (decide (r2 = (⟨#[105, 110, 115, 116, 101, 97, 100]⟩ : ByteArray))) with hg8 | hg8
            · replace h := h.1 hg8
              refine q1 (.int .i64 who1) (want1 rfl (yD 49 hg8)) ?_
              refine q1 (.bool ((who1 : Int) == 2)) (want1 rfl (yD 49 hg8)) ?_
              refine q2 (.bool ((who1 : Int) == 2)) (x_pickT (b := (decide (r2 = (⟨#[105, 110, 115, 116, 101, 97, 100]⟩ : ByteArray)))) (by kernel_rfl) hg8 (by kernel_rfl)) ?_
              refine q0 (.bool ((who1 : Int) == 2)) ?_
              refine wpL_nil ?_
              refine th_n ?_
              exact ⟨((who1 : Int) == 2), Has.mk (by kernel_rfl), h⟩
            · replace h := h.2 hg8
              refine st_not (unwant rfl (yD 49 hg8) rfl) ?_
              refine st_not (unwant rfl (yD 49 hg8) rfl) ?_
              refine q2 (.bool false) (x_pickF (b := (decide (r2 = (⟨#[105, 110, 115, 116, 101, 97, 100]⟩ : ByteArray)))) (by kernel_rfl) hg8 (by kernel_rfl)) ?_
              refine q0 (.bool false) ?_
              refine wpL_nil ?_
              refine th_n ?_
              exact ⟨false, Has.mk (by kernel_rfl), h⟩
      · skip
        refine rg ?_
        refine q0 (.string r2) ?_
        refine q2 (.bool (decide (r2 = (⟨#[97, 98, 111, 114, 116, 101, 100]⟩ : ByteArray)))) (x_streq (by kernel_rfl) (by kernel_rfl)) ?_
        refine q0 (.bool (decide (r2 = (⟨#[97, 98, 111, 114, 116, 101, 100]⟩ : ByteArray)))) ?_
        rcases Bool.eq_false_or_eq_true (decide (r2 = (⟨#[97, 98, 111, 114, 116, 101, 100]⟩ : ByteArray))) with hg9 | hg9
        · replace h := h.1 hg9
          refine q1 (.int .i64 who1) (want1 rfl (yD 37 hg9)) ?_
          refine q1 (.bool ((who1 : Int) == 2)) (want1 rfl (yD 37 hg9)) ?_
          refine q2 (.bool ((who1 : Int) == 2)) (x_pickT (b := (decide (r2 = (⟨#[97, 98, 111, 114, 116, 101, 100]⟩ : ByteArray)))) (by kernel_rfl) hg9 (by kernel_rfl)) ?_
          refine q0 (.bool ((who1 : Int) == 2)) ?_
          refine wpL_nil ?_
          refine th_n ?_
          exact ⟨((who1 : Int) == 2), Has.mk (by kernel_rfl), h⟩
        · replace h := h.2 hg9
          refine st_not (unwant rfl (yD 37 hg9) rfl) ?_
          refine st_not (unwant rfl (yD 37 hg9) rfl) ?_
          refine q2 (.bool false) (x_pickF (b := (decide (r2 = (⟨#[97, 98, 111, 114, 116, 101, 100]⟩ : ByteArray)))) (by kernel_rfl) hg9 (by kernel_rfl)) ?_
          refine q0 (.bool false) ?_
          refine wpL_nil ?_
          refine th_n ?_
          exact ⟨false, Has.mk (by kernel_rfl), h⟩
  · skip
    refine rg ?_
    refine q0 (.string r2) ?_
    refine q2 (.bool (decide (r2 = (⟨#[97, 98, 111, 114, 116]⟩ : ByteArray)))) (x_streq (by kernel_rfl) (by kernel_rfl)) ?_
    refine q0 (.bool (decide (r2 = (⟨#[97, 98, 111, 114, 116]⟩ : ByteArray)))) ?_
    rcases Bool.eq_false_or_eq_true (decide (r2 = (⟨#[97, 98, 111, 114, 116]⟩ : ByteArray))) with hg10 | hg10
    · replace h := h.1 hg10
      refine q1 (.int .i64 who1) (want1 rfl (yD 25 hg10)) ?_
      refine q1 (.bool ((who1 : Int) == 0)) (want1 rfl (yD 25 hg10)) ?_
      refine q2 (.bool ((who1 : Int) == 0)) (x_pickT (b := (decide (r2 = (⟨#[97, 98, 111, 114, 116]⟩ : ByteArray)))) (by kernel_rfl) hg10 (by kernel_rfl)) ?_
      refine q0 (.bool ((who1 : Int) == 0)) ?_
      refine wpL_nil ?_
      refine th_n ?_
      exact ⟨((who1 : Int) == 0), Has.mk (by kernel_rfl), h⟩
    · replace h := h.2 hg10
      refine st_not (unwant rfl (yD 25 hg10) rfl) ?_
      refine st_not (unwant rfl (yD 25 hg10) rfl) ?_
      refine q2 (.bool false) (x_pickF (b := (decide (r2 = (⟨#[97, 98, 111, 114, 116]⟩ : ByteArray)))) (by kernel_rfl) hg10 (by kernel_rfl)) ?_
      refine q0 (.bool false) ?_
      refine wpL_nil ?_
      refine th_n ?_
      exact ⟨false, Has.mk (by kernel_rfl), h⟩

def m_letter_reader_promise_j1 (r1 : Option Addr) (p1 : Addr) (p2 : Addr) (w : World) (K : Int → Int → Int → ByteArray → Bool → World → Prop) : Prop :=
  ∃ v2 : Int, w.cell? (p2.add 5) = some (.int .i64 v2) ∧
  Calls Try.prog 218 #[(.pointer r1), (.int .i64 v2)] w (fun e w5 => ∃ r3 : Int, ∃ r4 : ByteArray, e = .returned (.tuple #[(.int .u64 r3), (.string r4)]) ∧ 
    ∃ v3 : Int, w5.cell? (p2.add 1) = some (.int .i64 v3) ∧
    ∃ v4 : Int, w5.cell? p2 = some (.int .i64 v4) ∧
    (∀ j, j < 5 → CanW w5 (p1.add j)) ∧ ∀ w6 : World, w6 = storeRow w5 p1 [(.int .i64 1), (.int .i64 v3), (.int .u64 r3), (.string r4), (.bool ((v4 : Int) == 9))] →
    ∃ qKind1 : Int, ∃ qFrom1 : Int, ∃ qC1 : Int, ∃ qText1 : ByteArray, ∃ qFake1 : Bool, Row w6 p1 [(.int .i64 qKind1), (.int .i64 qFrom1), (.int .u64 qC1), (.string qText1), (.bool qFake1)] ∧
    K qKind1 qFrom1 qC1 qText1 qFake1 w6)
def m_letter_reader_promise_j3 (r1 : Option Addr) (p1 : Addr) (p2 : Addr) (x2 : Bool) (w : World) (K : Int → Int → Int → ByteArray → Bool → World → Prop) : Prop :=
  Br x2
    (∃ a2 : Addr, r1 = some a2 ∧
    CanW w (a2.add 1) ∧ ∀ w7 : World, w7 = w.setCell (a2.add 1) (.bool true) →
    (∀ j, j < 5 → CanW w7 (p1.add j)) ∧ ∀ w8 : World, w8 = storeRow w7 p1 [(.int .i64 0), (.int .i64 0), (.int .u64 0), (.string (⟨#[]⟩ : ByteArray)), (.bool false)] →
    ∃ qKind2 : Int, ∃ qFrom2 : Int, ∃ qC2 : Int, ∃ qText2 : ByteArray, ∃ qFake2 : Bool, Row w8 p1 [(.int .i64 qKind2), (.int .i64 qFrom2), (.int .u64 qC2), (.string qText2), (.bool qFake2)] ∧
    K qKind2 qFrom2 qC2 qText2 qFake2 w8)
    (∃ v6 : Int, w.cell? (p2.add 2) = some (.int .i64 v6) ∧
    ∃ v7 : Int, w.cell? (p2.add 1) = some (.int .i64 v7) ∧
    Br ((v6 : Int) != (IntKind.i64.wrap (1 - v7)))
      (∃ a3 : Addr, r1 = some a3 ∧
      CanW w (a3.add 1) ∧ ∀ w9 : World, w9 = w.setCell (a3.add 1) (.bool true) →
      (∀ j, j < 5 → CanW w9 (p1.add j)) ∧ ∀ w10 : World, w10 = storeRow w9 p1 [(.int .i64 0), (.int .i64 0), (.int .u64 0), (.string (⟨#[]⟩ : ByteArray)), (.bool false)] →
      ∃ qKind3 : Int, ∃ qFrom3 : Int, ∃ qC3 : Int, ∃ qText3 : ByteArray, ∃ qFake3 : Bool, Row w10 p1 [(.int .i64 qKind3), (.int .i64 qFrom3), (.int .u64 qC3), (.string qText3), (.bool qFake3)] ∧
      K qKind3 qFrom3 qC3 qText3 qFake3 w10)
      (m_letter_reader_promise_j1 r1 p1 p2 w K))
def m_letter_reader_promise_j2 (r1 : Option Addr) (p1 : Addr) (p2 : Addr) (x1 : Bool) (w : World) (K : Int → Int → Int → ByteArray → Bool → World → Prop) : Prop :=
  Br x1
    (m_letter_reader_promise_j3 r1 p1 p2 true w K)
    (∃ v8 : Int, w.cell? (p2.add 1) = some (.int .i64 v8) ∧
    m_letter_reader_promise_j3 r1 p1 p2 (decide (v8 > 1)) w K)
def m_letter_reader_promise (r1 : Option Addr) (t1 : Int) (w : World) (K : Int → Int → Int → ByteArray → Bool → World → Prop) : Prop :=
  ∀ (p1 : Addr) (w1 : World), New w (.cells #[(.int .i64 0), (.int .i64 0), (.int .u64 0), (.string (⟨#[]⟩ : ByteArray)), (.bool false)] 132) p1 w1 →
  ∃ a1 : Addr, r1 = some a1 ∧
  ∃ v1 : Option Addr, w1.cell? a1 = some (.pointer v1) ∧
  Calls Try.prog 91 #[(.pointer v1), (.int .i64 t1)] w1 (fun e w2 => ∃ rKind1 : Int, ∃ rFrom1 : Int, ∃ rTo1 : Int, ∃ rNum1 : Int, ∃ rText1 : ByteArray, ∃ rA1 : Int, ∃ rB1 : Int, ∃ r2 : Bool, e = .returned (.tuple #[(.agg #[(.int .i64 rKind1), (.int .i64 rFrom1), (.int .i64 rTo1), (.int .u64 rNum1), (.string rText1), (.int .i64 rA1), (.int .i64 rB1)]), (.bool r2)]) ∧ 
    ∀ (p2 : Addr) (w3 : World), New w2 (.cells #[(.int .i64 0), (.int .i64 0), (.int .i64 0), (.int .u64 0), (.string (⟨#[]⟩ : ByteArray)), (.int .i64 0), (.int .i64 0)] 93) p2 w3 →
    (∀ j, j < 7 → CanW w3 (p2.add j)) ∧ ∀ w4 : World, w4 = storeRow w3 p2 [(.int .i64 rKind1), (.int .i64 rFrom1), (.int .i64 rTo1), (.int .u64 rNum1), (.string rText1), (.int .i64 rA1), (.int .i64 rB1)] →
    ∃ v5 : Int, w4.cell? p2 = some (.int .i64 v5) ∧
    Br ((v5 : Int) != 8)
      (∃ v9 : Int, w4.cell? p2 = some (.int .i64 v9) ∧
      m_letter_reader_promise_j2 r1 p1 p2 ((v9 : Int) != 9) w4 K)
      (m_letter_reader_promise_j2 r1 p1 p2 false w4 K))
set_option maxRecDepth 100000 in
set_option maxHeartbeats 4000000 in
theorem w_letter_reader_promise (r1 : Option Addr) (t1 : Int) (w : World) (K : Int → Int → Int → ByteArray → Bool → World → Prop) (h : m_letter_reader_promise r1 t1 w K) :
    Calls Try.prog 166 #[(.pointer r1), (.int .i64 t1)] w (fun e w' => ∃ rKind2 : Int, ∃ rFrom2 : Int, ∃ rC1 : Int, ∃ rText2 : ByteArray, ∃ rFake1 : Bool, e = .returned (.agg #[(.int .i64 rKind2), (.int .i64 rFrom2), (.int .u64 rC1), (.string rText2), (.bool rFake1)]) ∧ K rKind2 rFrom2 rC1 rText2 rFake1 w') := by
  unfold m_letter_reader_promise at h
  refine calls_of_wpE (args := [(.pointer r1), (.int .i64 t1)]) Try.func166 rfl Try.ntmps166 (Nat.le_of_ble_eq_true rfl) ?_
  refine wpE_seq ?_
  refine rg ?_
  refine st_new (O := (.cells #[(.int .i64 0), (.int .i64 0), (.int .u64 0), (.string (⟨#[]⟩ : ByteArray)), (.bool false)] 132)) (fun p => .pointer (some p)) (want0 rfl) (x_alloc (Try.zeroValue132 _) rfl) ?_
  intro p1 w1 hn8
  replace h := h p1 w1 hn8
  refine wpL_nil ?_
  refine th_n ?_
  refine wpE_seq ?_
  refine rg ?_
  refine q0 (.pointer r1) ?_
  obtain ⟨a1, hp1, h⟩ := h
  refine q2 (.pointer (some a1)) (x_nilCheck (p := r1) (by kernel_rfl) hp1) ?_
  refine q0 (.pointer (some a1)) ?_
  obtain ⟨v1, hv12, h⟩ := h
  refine q2 (.pointer v1) (x_load (a := a1) (by kernel_rfl) (Try.isAgg25 _) hv12) ?_
  refine q0 (.int .i64 t1) ?_
  refine st_call (want0 rfl) (x_callE (args := #[(.pointer v1), (.int .i64 t1)]) Try.call91 (by kernel_rfl)) (h.mono ?_)
  clear h
  rintro e w2 ⟨rKind1, rFrom1, rTo1, rNum1, rText1, rA1, rB1, r2, rfl, h⟩
  refine ⟨_, rfl, ?_⟩
  refine q0 (.tuple #[(.agg #[(.int .i64 rKind1), (.int .i64 rFrom1), (.int .i64 rTo1), (.int .u64 rNum1), (.string rText1), (.int .i64 rA1), (.int .i64 rB1)]), (.bool r2)]) ?_
  refine q0 (.agg #[(.int .i64 rKind1), (.int .i64 rFrom1), (.int .i64 rTo1), (.int .u64 rNum1), (.string rText1), (.int .i64 rA1), (.int .i64 rB1)]) ?_
  refine q0 (.bool r2) ?_
  refine st_new (O := (.cells #[(.int .i64 0), (.int .i64 0), (.int .i64 0), (.int .u64 0), (.string (⟨#[]⟩ : ByteArray)), (.int .i64 0), (.int .i64 0)] 93)) (fun p => .pointer (some p)) (want0 rfl) (x_alloc (Try.zeroValue93 _) rfl) ?_
  intro p2 w3 hn7
  replace h := h p2 w3 hn7
  obtain ⟨hp2, h⟩ := h
  refine st_set (want0 rfl) (x_storeA (a := p2) (vs := [(.int .i64 rKind1), (.int .i64 rFrom1), (.int .i64 rTo1), (.int .u64 rNum1), (.string rText1), (.int .i64 rA1), (.int .i64 rB1)]) (by kernel_rfl) (by kernel_rfl) rfl (Try.sizeOf93 _) rfl hp2) ?_
  intro w4 hn1
  replace h := h w4 hn1
  refine q0 (.bool r2) ?_
  refine wpL_nil ?_
  refine th_n ?_
  refine wpE_join (fun ρ w => Has ρ [(0, (.pointer r1)), (4, (.pointer (some p1))), (5, (.pointer (some p2)))] ∧ m_letter_reader_promise_j1 r1 p1 p2 w K) ?_ ?_
  · rintro ρ w ⟨hH, h⟩
    unfold m_letter_reader_promise_j1 at h
    refine wpE_has hH ?_
    clear hH
    refine wpE_seq ?_
    refine rg ?_
    refine q0 (.pointer r1) ?_
    refine q0 (.pointer (some (p2.add 5))) ?_
    obtain ⟨v2, hv4, h⟩ := h
    refine q2 (.int .i64 v2) (x_load (a := (p2.add 5)) (by kernel_rfl) (Try.isAgg41 _) hv4) ?_
    refine st_call (want0 rfl) (x_callE (args := #[(.pointer r1), (.int .i64 v2)]) Try.call218 (by kernel_rfl)) (h.mono ?_)
    clear h
    rintro e w5 ⟨r3, r4, rfl, h⟩
    refine ⟨_, rfl, ?_⟩
    refine q0 (.tuple #[(.int .u64 r3), (.string r4)]) ?_
    refine q0 (.int .u64 r3) ?_
    refine q0 (.string r4) ?_
    refine q0 (.int .u64 r3) ?_
    refine q0 (.string r4) ?_
    refine wpL_nil ?_
    refine th_n ?_
    refine wpE_seq ?_
    refine rg ?_
    refine q0 (.pointer (some (p2.add 1))) ?_
    obtain ⟨v3, hv3, h⟩ := h
    refine q2 (.int .i64 v3) (x_load (a := (p2.add 1)) (by kernel_rfl) (Try.isAgg3 _) hv3) ?_
    refine q0 (.int .u64 r3) ?_
    refine q0 (.string r4) ?_
    refine q0 (.pointer (some p2)) ?_
    obtain ⟨v4, hv2, h⟩ := h
    refine q2 (.int .i64 v4) (x_load (a := p2) (by kernel_rfl) (Try.isAgg3 _) hv2) ?_
    refine q0 (.bool ((v4 : Int) == 9)) ?_
    refine q0 (.agg #[(.int .i64 1), (.int .i64 v3), (.int .u64 r3), (.string r4), (.bool ((v4 : Int) == 9))]) ?_
    obtain ⟨hp3, h⟩ := h
    refine st_set (want0 rfl) (x_storeA (a := p1) (vs := [(.int .i64 1), (.int .i64 v3), (.int .u64 r3), (.string r4), (.bool ((v4 : Int) == 9))]) (by kernel_rfl) (by kernel_rfl) rfl (Try.sizeOf132 _) rfl hp3) ?_
    intro w6 hn2
    replace h := h w6 hn2
    refine wpL_nil ?_
    refine th_n ?_
    refine wpE_ret ?_
    obtain ⟨qKind1, qFrom1, qC1, qText1, qFake1, hv1, h⟩ := h
    refine resG (.inl rfl) (rs := [.cell 4 132]) (vs := [(.agg #[(.int .i64 qKind1), (.int .i64 qFrom1), (.int .u64 qC1), (.string qText1), (.bool qFake1)])]) (v := (.agg #[(.int .i64 qKind1), (.int .i64 qFrom1), (.int .u64 qC1), (.string qText1), (.bool qFake1)])) Try.results166 ⟨(RV.cellA (A := p1) (vs := [(.int .i64 qKind1), (.int .i64 qFrom1), (.int .u64 qC1), (.string qText1), (.bool qFake1)]) (by kernel_rfl) (Try.isAgg132 _) (Try.sizeOf132 _) rfl hv1), trivial⟩ (by kernel_rfl) ?_
    exact ⟨qKind1, qFrom1, qC1, qText1, qFake1, rfl, h⟩
  · skip
    refine wpE_seq ?_
    refine rg ?_
    refine q0 (.pointer (some p2)) ?_
    obtain ⟨v5, hv11, h⟩ := h
    refine q2 (.int .i64 v5) (x_load (a := p2) (by kernel_rfl) (Try.isAgg3 _) hv11) ?_
    refine q0 (.bool ((v5 : Int) != 8)) ?_
    refine q0 (.bool ((v5 : Int) != 8)) ?_
    refine wpL_join 4 (fun ρ w => ∃ x1 : Bool, Has ρ [(0, (.pointer r1)), (4, (.pointer (some p1))), (5, (.pointer (some p2))), (25, (.bool x1))] ∧ m_letter_reader_promise_j2 r1 p1 p2 x1 w K) ?_ ?_
    · rintro ρ w ⟨x1, hH, h⟩
      unfold m_letter_reader_promise_j2 at h
      refine wpL_has hH ?_
      clear hH
      refine q0 (.bool x1) ?_
      refine wpL_join 4 (fun ρ w => ∃ x2 : Bool, Has ρ [(0, (.pointer r1)), (4, (.pointer (some p1))), (5, (.pointer (some p2))), (30, (.bool x2))] ∧ m_letter_reader_promise_j3 r1 p1 p2 x2 w K) ?_ ?_
      · rintro ρ w ⟨x2, hH, h⟩
        unfold m_letter_reader_promise_j3 at h
        refine wpL_has hH ?_
        clear hH
        refine q0 (.bool x2) ?_
        rcases Bool.eq_false_or_eq_true x2 with hg1 | hg1
        · replace h := h.1 hg1
          refine st_not (unwant rfl (yD 31 hg1) rfl) ?_
          refine st_not (unwant rfl (yD 31 hg1) rfl) ?_
          refine st_not (unwant rfl (yD 31 hg1) rfl) ?_
          refine st_not (unwant rfl (yD 31 hg1) rfl) ?_
          refine st_not (unwant rfl (yD 31 hg1) rfl) ?_
          refine st_not (unwant rfl (yD 31 hg1) rfl) ?_
          refine q2 (.bool true) (x_pickT (b := x2) (by kernel_rfl) hg1 (by kernel_rfl)) ?_
          refine wpL_nil ?_
          refine th_n ?_
          refine wpE_condT (by kernel_rfl) ?_
          refine wpE_seq ?_
          refine rg ?_
          refine q0 (.pointer r1) ?_
          obtain ⟨a2, hp4, h⟩ := h
          refine q2 (.pointer (some a2)) (x_nilCheck (p := r1) (by kernel_rfl) hp4) ?_
          refine q0 (.pointer (some (a2.add 1))) ?_
          obtain ⟨hp5, h⟩ := h
          refine st_set (want0 rfl) (x_store (a := (a2.add 1)) (v := (.bool true)) (by kernel_rfl) (by kernel_rfl) rfl (Try.sizeOf4 _) hp5) ?_
          intro w7 hn3
          replace h := h w7 hn3
          refine wpL_nil ?_
          refine th_n ?_
          refine wpE_seq ?_
          refine rg ?_
          refine q0 (.agg #[(.int .i64 0), (.int .i64 0), (.int .u64 0), (.string (⟨#[]⟩ : ByteArray)), (.bool false)]) ?_
          obtain ⟨hp6, h⟩ := h
          refine st_set (want0 rfl) (x_storeA (a := p1) (vs := [(.int .i64 0), (.int .i64 0), (.int .u64 0), (.string (⟨#[]⟩ : ByteArray)), (.bool false)]) (by kernel_rfl) (by kernel_rfl) rfl (Try.sizeOf132 _) rfl hp6) ?_
          intro w8 hn4
          replace h := h w8 hn4
          refine wpL_nil ?_
          refine th_n ?_
          refine wpE_ret ?_
          refine th_r ?_
          obtain ⟨qKind2, qFrom2, qC2, qText2, qFake2, hv5, h⟩ := h
          refine resG (.inl rfl) (rs := [.cell 4 132]) (vs := [(.agg #[(.int .i64 qKind2), (.int .i64 qFrom2), (.int .u64 qC2), (.string qText2), (.bool qFake2)])]) (v := (.agg #[(.int .i64 qKind2), (.int .i64 qFrom2), (.int .u64 qC2), (.string qText2), (.bool qFake2)])) Try.results166 ⟨(RV.cellA (A := p1) (vs := [(.int .i64 qKind2), (.int .i64 qFrom2), (.int .u64 qC2), (.string qText2), (.bool qFake2)]) (by kernel_rfl) (Try.isAgg132 _) (Try.sizeOf132 _) rfl hv5), trivial⟩ (by kernel_rfl) ?_
          exact ⟨qKind2, qFrom2, qC2, qText2, qFake2, rfl, h⟩
        · replace h := h.2 hg1
          refine q1 (.pointer (some (p2.add 2))) (want1 rfl (yD 31 hg1)) ?_
          obtain ⟨v6, hv8, h⟩ := h
          refine stp (v := (.int .i64 v6)) (want1 rfl (yD 31 hg1)) (x_load (a := (p2.add 2)) (by kernel_rfl) (Try.isAgg3 _) hv8) ?_
          refine q1 (.pointer (some (p2.add 1))) (want1 rfl (yD 31 hg1)) ?_
          obtain ⟨v7, hv7, h⟩ := h
          refine stp (v := (.int .i64 v7)) (want1 rfl (yD 31 hg1)) (x_load (a := (p2.add 1)) (by kernel_rfl) (Try.isAgg3 _) hv7) ?_
          refine q1 (.int .i64 (IntKind.i64.wrap (1 - v7))) (want1 rfl (yD 31 hg1)) ?_
          refine q1 (.bool ((v6 : Int) != (IntKind.i64.wrap (1 - v7)))) (want1 rfl (yD 31 hg1)) ?_
          refine q2 (.bool ((v6 : Int) != (IntKind.i64.wrap (1 - v7)))) (x_pickF (b := x2) (by kernel_rfl) hg1 (by kernel_rfl)) ?_
          refine wpL_nil ?_
          refine th_n ?_
          refine wpE_cond (t := ((v6 : Int) != (IntKind.i64.wrap (1 - v7)))) (by kernel_rfl) (fun hc1 => ?_) (fun hc1 => ?_)
          · replace h := h.1 hc1
            refine wpE_seq ?_
            refine rg ?_
            refine q0 (.pointer r1) ?_
            obtain ⟨a3, hp7, h⟩ := h
            refine q2 (.pointer (some a3)) (x_nilCheck (p := r1) (by kernel_rfl) hp7) ?_
            refine q0 (.pointer (some (a3.add 1))) ?_
            obtain ⟨hp8, h⟩ := h
            refine st_set (want0 rfl) (x_store (a := (a3.add 1)) (v := (.bool true)) (by kernel_rfl) (by kernel_rfl) rfl (Try.sizeOf4 _) hp8) ?_
            intro w9 hn5
            replace h := h w9 hn5
            refine wpL_nil ?_
            refine th_n ?_
            refine wpE_seq ?_
            refine rg ?_
            refine q0 (.agg #[(.int .i64 0), (.int .i64 0), (.int .u64 0), (.string (⟨#[]⟩ : ByteArray)), (.bool false)]) ?_
            obtain ⟨hp9, h⟩ := h
            refine st_set (want0 rfl) (x_storeA (a := p1) (vs := [(.int .i64 0), (.int .i64 0), (.int .u64 0), (.string (⟨#[]⟩ : ByteArray)), (.bool false)]) (by kernel_rfl) (by kernel_rfl) rfl (Try.sizeOf132 _) rfl hp9) ?_
            intro w10 hn6
            replace h := h w10 hn6
            refine wpL_nil ?_
            refine th_n ?_
            refine wpE_ret ?_
            refine th_r ?_
            obtain ⟨qKind3, qFrom3, qC3, qText3, qFake3, hv6, h⟩ := h
            refine resG (.inl rfl) (rs := [.cell 4 132]) (vs := [(.agg #[(.int .i64 qKind3), (.int .i64 qFrom3), (.int .u64 qC3), (.string qText3), (.bool qFake3)])]) (v := (.agg #[(.int .i64 qKind3), (.int .i64 qFrom3), (.int .u64 qC3), (.string qText3), (.bool qFake3)])) Try.results166 ⟨(RV.cellA (A := p1) (vs := [(.int .i64 qKind3), (.int .i64 qFrom3), (.int .u64 qC3), (.string qText3), (.bool qFake3)]) (by kernel_rfl) (Try.isAgg132 _) (Try.sizeOf132 _) rfl hv6), trivial⟩ (by kernel_rfl) ?_
            exact ⟨qKind3, qFrom3, qC3, qText3, qFake3, rfl, h⟩
          · replace h := h.2 hc1
            refine wpE_skip ?_
            refine th_n ?_
            exact ⟨Has.mk (by kernel_rfl), h⟩
      · skip
        rcases Bool.eq_false_or_eq_true x1 with hg2 | hg2
        · replace h := h.1 hg2
          refine st_not (unwant rfl (yD 26 hg2) rfl) ?_
          refine st_not (unwant rfl (yD 26 hg2) rfl) ?_
          refine st_not (unwant rfl (yD 26 hg2) rfl) ?_
          refine q2 (.bool true) (x_pickT (b := x1) (by kernel_rfl) hg2 (by kernel_rfl)) ?_
          refine wpL_nil ?_
          exact ⟨true, Has.mk (by kernel_rfl), h⟩
        · replace h := h.2 hg2
          refine q1 (.pointer (some (p2.add 1))) (want1 rfl (yD 26 hg2)) ?_
          obtain ⟨v8, hv9, h⟩ := h
          refine stp (v := (.int .i64 v8)) (want1 rfl (yD 26 hg2)) (x_load (a := (p2.add 1)) (by kernel_rfl) (Try.isAgg3 _) hv9) ?_
          refine q1 (.bool (decide (v8 > 1))) (want1 rfl (yD 26 hg2)) ?_
          refine q2 (.bool (decide (v8 > 1))) (x_pickF (b := x1) (by kernel_rfl) hg2 (by kernel_rfl)) ?_
          refine wpL_nil ?_
          exact ⟨(decide (v8 > 1)), Has.mk (by kernel_rfl), h⟩
    · skip
      rcases Bool.eq_false_or_eq_true ((v5 : Int) != 8) with hg3 | hg3
      · replace h := h.1 hg3
        refine q1 (.pointer (some p2)) (want1 rfl (yD 21 hg3)) ?_
        obtain ⟨v9, hv10, h⟩ := h
        refine stp (v := (.int .i64 v9)) (want1 rfl (yD 21 hg3)) (x_load (a := p2) (by kernel_rfl) (Try.isAgg3 _) hv10) ?_
        refine q1 (.bool ((v9 : Int) != 9)) (want1 rfl (yD 21 hg3)) ?_
        refine q2 (.bool ((v9 : Int) != 9)) (x_pickT (b := ((v5 : Int) != 8)) (by kernel_rfl) hg3 (by kernel_rfl)) ?_
        refine wpL_nil ?_
        exact ⟨((v9 : Int) != 9), Has.mk (by kernel_rfl), h⟩
      · replace h := h.2 hg3
        refine st_not (unwant rfl (yD 21 hg3) rfl) ?_
        refine st_not (unwant rfl (yD 21 hg3) rfl) ?_
        refine st_not (unwant rfl (yD 21 hg3) rfl) ?_
        refine q2 (.bool false) (x_pickF (b := ((v5 : Int) != 8)) (by kernel_rfl) hg3 (by kernel_rfl)) ?_
        refine wpL_nil ?_
        exact ⟨false, Has.mk (by kernel_rfl), h⟩

def m_letter_reader_tagged (r1 : Option Addr) (t1 : Int) (w : World) (K : ByteArray → Int → World → Prop) : Prop :=
  Calls Try.prog 168 #[(.pointer r1), (.int .i64 t1), (.int .i64 4)] w (fun e w1 => ∃ rKind1 : Int, ∃ rFrom1 : Int, ∃ rTo1 : Int, ∃ rNum1 : Int, ∃ rText1 : ByteArray, ∃ rA1 : Int, ∃ rB1 : Int, e = .returned (.agg #[(.int .i64 rKind1), (.int .i64 rFrom1), (.int .i64 rTo1), (.int .u64 rNum1), (.string rText1), (.int .i64 rA1), (.int .i64 rB1)]) ∧ 
    ∀ (p1 : Addr) (w2 : World), New w1 (.cells #[(.int .i64 0), (.int .i64 0), (.int .i64 0), (.int .u64 0), (.string (⟨#[]⟩ : ByteArray)), (.int .i64 0), (.int .i64 0)] 93) p1 w2 →
    (∀ j, j < 7 → CanW w2 (p1.add j)) ∧ ∀ w3 : World, w3 = storeRow w2 p1 [(.int .i64 rKind1), (.int .i64 rFrom1), (.int .i64 rTo1), (.int .u64 rNum1), (.string rText1), (.int .i64 rA1), (.int .i64 rB1)] →
    ∃ C1 : World → Prop, C1 w3.drew ∧ ∀ w4, w4 = w3.drew →
    ∃ v1 : Int, (∀ w', C1 w' → w'.cell? (p1.add 5) = some (.int .i64 v1)) ∧
    ∃ v2 : Int, (∀ w', C1 w' → w'.cell? (p1.add 6) = some (.int .i64 v2)) ∧
    Calls Try.prog 168 #[(.pointer r1), (.int .i64 v1), (.int .i64 3)] w4 (fun e w5 => ∃ rKind2 : Int, ∃ rFrom2 : Int, ∃ rTo2 : Int, ∃ rNum2 : Int, ∃ rText2 : ByteArray, ∃ rA2 : Int, ∃ rB2 : Int, e = .returned (.agg #[(.int .i64 rKind2), (.int .i64 rFrom2), (.int .i64 rTo2), (.int .u64 rNum2), (.string rText2), (.int .i64 rA2), (.int .i64 rB2)]) ∧ C1 w5 ∧ 
      K rText2 v2 w5))
set_option maxRecDepth 100000 in
set_option maxHeartbeats 4000000 in
theorem w_letter_reader_tagged (r1 : Option Addr) (t1 : Int) (w : World) (K : ByteArray → Int → World → Prop) (h : m_letter_reader_tagged r1 t1 w K) :
    Calls Try.prog 167 #[(.pointer r1), (.int .i64 t1)] w (fun e w' => ∃ r2 : ByteArray, ∃ r3 : Int, e = .returned (.tuple #[(.string r2), (.int .i64 r3)]) ∧ K r2 r3 w') := by
  unfold m_letter_reader_tagged at h
  refine calls_of_wpE (args := [(.pointer r1), (.int .i64 t1)]) Try.func167 rfl Try.ntmps167 (Nat.le_of_ble_eq_true rfl) ?_
  refine wpE_seq ?_
  refine rg ?_
  refine q0 (.string (⟨#[]⟩ : ByteArray)) ?_
  refine q0 (.int .i64 0) ?_
  refine wpL_nil ?_
  refine th_n ?_
  refine wpE_seq ?_
  refine rg ?_
  refine q0 (.pointer r1) ?_
  refine q0 (.int .i64 t1) ?_
  refine st_call (want0 rfl) (x_callE (args := #[(.pointer r1), (.int .i64 t1), (.int .i64 4)]) Try.call168 (by kernel_rfl)) (h.mono ?_)
  clear h
  rintro e w1 ⟨rKind1, rFrom1, rTo1, rNum1, rText1, rA1, rB1, rfl, h⟩
  refine ⟨_, rfl, ?_⟩
  refine st_new (O := (.cells #[(.int .i64 0), (.int .i64 0), (.int .i64 0), (.int .u64 0), (.string (⟨#[]⟩ : ByteArray)), (.int .i64 0), (.int .i64 0)] 93)) (fun p => .pointer (some p)) (want0 rfl) (x_alloc (Try.zeroValue93 _) rfl) ?_
  intro p1 w2 hn2
  replace h := h p1 w2 hn2
  obtain ⟨hp1, h⟩ := h
  refine st_set (want0 rfl) (x_storeA (a := p1) (vs := [(.int .i64 rKind1), (.int .i64 rFrom1), (.int .i64 rTo1), (.int .u64 rNum1), (.string rText1), (.int .i64 rA1), (.int .i64 rB1)]) (by kernel_rfl) (by kernel_rfl) rfl (Try.sizeOf93 _) rfl hp1) ?_
  intro w3 hn1
  replace h := h w3 hn1
  refine wpL_nil ?_
  refine th_n ?_
  refine wpE_seq ?_
  obtain ⟨C1, hC, h⟩ := h
  refine wpE_drawnC C1 [3] [] (by kernel_rfl) (by kernel_rfl) (by kernel_rfl) (by kernel_rfl) hC ?_
  clear hC
  intro w4 hw4
  replace h := h w4 hw4
  refine qx 0 (.pointer r1) Kp0 ?_
  refine qx 1 (.pointer (some (p1.add 5))) Kp1 ?_
  refine qgo (k := 2) (by kernel_rfl) ?_
  obtain ⟨v1, hv2, h⟩ := h
  refine sx (v := (.int .i64 v1)) Kp2 (want0 rfl) (by kernel_rfl) (fun w' hw' => (x_load (a := (p1.add 5)) (by kernel_rfl) (Try.isAgg41 _) (hv2 w' hw'))) ?_
  refine qx 5 (.pointer (some (p1.add 6))) Kp5 ?_
  refine qgo (k := 6) (by kernel_rfl) ?_
  obtain ⟨v2, hv1, h⟩ := h
  refine sx (v := (.int .i64 v2)) Kp6 (want0 rfl) (by kernel_rfl) (fun w' hw' => (x_load (a := (p1.add 6)) (by kernel_rfl) (Try.isAgg41 _) (hv1 w' hw'))) ?_
  refine lgo (k := 3) (by kernel_rfl) ?_
  refine sl_call Kp3 (want0 rfl) (by kernel_rfl) (x_callE (args := #[(.pointer r1), (.int .i64 v1), (.int .i64 3)]) Try.call168 (by kernel_rfl)) (h.mono ?_)
  clear h
  rintro e w5 ⟨rKind2, rFrom2, rTo2, rNum2, rText2, rA2, rB2, rfl, hC, h⟩
  refine ⟨_, rfl, .inr hC, ?_⟩
  refine qx 4 (.string rText2) Kp4 ?_
  refine qx 7 (.string rText2) Kp7 ?_
  refine qx 8 (.int .i64 v2) Kp8 ?_
  refine wpX_nil (by kernel_rfl) ?_
  refine th_n ?_
  refine wpE_ret ?_
  refine res2 (.inl rfl) Try.results167 (v := (.string rText2)) (by kernel_rfl) (v' := (.int .i64 v2)) (by kernel_rfl) ?_
  exact ⟨rText2, v2, rfl, h⟩

def m_letter_reader_node (r1 : Option Addr) (t1 : Int) (kind1 : Int) (w : World) (K : Int → Int → Int → Int → ByteArray → Int → Int → World → Prop) : Prop :=
  ∀ (p1 : Addr) (w1 : World), New w (.cells #[(.int .i64 0), (.int .i64 0), (.int .i64 0), (.int .u64 0), (.string (⟨#[]⟩ : ByteArray)), (.int .i64 0), (.int .i64 0)] 93) p1 w1 →
  ∃ a1 : Addr, r1 = some a1 ∧
  ∃ v1 : Option Addr, w1.cell? a1 = some (.pointer v1) ∧
  Calls Try.prog 91 #[(.pointer v1), (.int .i64 t1)] w1 (fun e w2 => ∃ rKind1 : Int, ∃ rFrom1 : Int, ∃ rTo1 : Int, ∃ rNum1 : Int, ∃ rText1 : ByteArray, ∃ rA1 : Int, ∃ rB1 : Int, ∃ r2 : Bool, e = .returned (.tuple #[(.agg #[(.int .i64 rKind1), (.int .i64 rFrom1), (.int .i64 rTo1), (.int .u64 rNum1), (.string rText1), (.int .i64 rA1), (.int .i64 rB1)]), (.bool r2)]) ∧ 
    ∀ (p2 : Addr) (w3 : World), New w2 (.cells #[(.int .i64 0), (.int .i64 0), (.int .i64 0), (.int .u64 0), (.string (⟨#[]⟩ : ByteArray)), (.int .i64 0), (.int .i64 0)] 93) p2 w3 →
    (∀ j, j < 7 → CanW w3 (p2.add j)) ∧ ∀ w4 : World, w4 = storeRow w3 p2 [(.int .i64 rKind1), (.int .i64 rFrom1), (.int .i64 rTo1), (.int .u64 rNum1), (.string rText1), (.int .i64 rA1), (.int .i64 rB1)] →
    Br (!r2)
      (∃ a2 : Addr, r1 = some a2 ∧
      CanW w4 (a2.add 1) ∧ ∀ w5 : World, w5 = w4.setCell (a2.add 1) (.bool true) →
      (∀ j, j < 7 → CanW w5 (p1.add j)) ∧ ∀ w6 : World, w6 = storeRow w5 p1 [(.int .i64 0), (.int .i64 0), (.int .i64 0), (.int .u64 0), (.string (⟨#[]⟩ : ByteArray)), (.int .i64 0), (.int .i64 0)] →
      ∃ qKind1 : Int, ∃ qFrom1 : Int, ∃ qTo1 : Int, ∃ qNum1 : Int, ∃ qText1 : ByteArray, ∃ qA1 : Int, ∃ qB1 : Int, Row w6 p1 [(.int .i64 qKind1), (.int .i64 qFrom1), (.int .i64 qTo1), (.int .u64 qNum1), (.string qText1), (.int .i64 qA1), (.int .i64 qB1)] ∧
      K qKind1 qFrom1 qTo1 qNum1 qText1 qA1 qB1 w6)
      (∃ v2 : Int, w4.cell? p2 = some (.int .i64 v2) ∧
      Br ((v2 : Int) != kind1)
        (∃ a3 : Addr, r1 = some a3 ∧
        CanW w4 (a3.add 1) ∧ ∀ w7 : World, w7 = w4.setCell (a3.add 1) (.bool true) →
        (∀ j, j < 7 → CanW w7 (p1.add j)) ∧ ∀ w8 : World, w8 = storeRow w7 p1 [(.int .i64 0), (.int .i64 0), (.int .i64 0), (.int .u64 0), (.string (⟨#[]⟩ : ByteArray)), (.int .i64 0), (.int .i64 0)] →
        ∃ qKind2 : Int, ∃ qFrom2 : Int, ∃ qTo2 : Int, ∃ qNum2 : Int, ∃ qText2 : ByteArray, ∃ qA2 : Int, ∃ qB2 : Int, Row w8 p1 [(.int .i64 qKind2), (.int .i64 qFrom2), (.int .i64 qTo2), (.int .u64 qNum2), (.string qText2), (.int .i64 qA2), (.int .i64 qB2)] ∧
        K qKind2 qFrom2 qTo2 qNum2 qText2 qA2 qB2 w8)
        (∃ vKind1 : Int, ∃ vFrom1 : Int, ∃ vTo1 : Int, ∃ vNum1 : Int, ∃ vText1 : ByteArray, ∃ vA1 : Int, ∃ vB1 : Int, Row w4 p2 [(.int .i64 vKind1), (.int .i64 vFrom1), (.int .i64 vTo1), (.int .u64 vNum1), (.string vText1), (.int .i64 vA1), (.int .i64 vB1)] ∧
        (∀ j, j < 7 → CanW w4 (p1.add j)) ∧ ∀ w9 : World, w9 = storeRow w4 p1 [(.int .i64 vKind1), (.int .i64 vFrom1), (.int .i64 vTo1), (.int .u64 vNum1), (.string vText1), (.int .i64 vA1), (.int .i64 vB1)] →
        ∃ qKind3 : Int, ∃ qFrom3 : Int, ∃ qTo3 : Int, ∃ qNum3 : Int, ∃ qText3 : ByteArray, ∃ qA3 : Int, ∃ qB3 : Int, Row w9 p1 [(.int .i64 qKind3), (.int .i64 qFrom3), (.int .i64 qTo3), (.int .u64 qNum3), (.string qText3), (.int .i64 qA3), (.int .i64 qB3)] ∧
        K qKind3 qFrom3 qTo3 qNum3 qText3 qA3 qB3 w9)))
set_option maxRecDepth 100000 in
set_option maxHeartbeats 4000000 in
theorem w_letter_reader_node (r1 : Option Addr) (t1 : Int) (kind1 : Int) (w : World) (K : Int → Int → Int → Int → ByteArray → Int → Int → World → Prop) (h : m_letter_reader_node r1 t1 kind1 w K) :
    Calls Try.prog 168 #[(.pointer r1), (.int .i64 t1), (.int .i64 kind1)] w (fun e w' => ∃ rKind2 : Int, ∃ rFrom2 : Int, ∃ rTo2 : Int, ∃ rNum2 : Int, ∃ rText2 : ByteArray, ∃ rA2 : Int, ∃ rB2 : Int, e = .returned (.agg #[(.int .i64 rKind2), (.int .i64 rFrom2), (.int .i64 rTo2), (.int .u64 rNum2), (.string rText2), (.int .i64 rA2), (.int .i64 rB2)]) ∧ K rKind2 rFrom2 rTo2 rNum2 rText2 rA2 rB2 w') := by
  unfold m_letter_reader_node at h
  refine calls_of_wpE (args := [(.pointer r1), (.int .i64 t1), (.int .i64 kind1)]) Try.func168 rfl Try.ntmps168 (Nat.le_of_ble_eq_true rfl) ?_
  refine wpE_seq ?_
  refine rg ?_
  refine st_new (O := (.cells #[(.int .i64 0), (.int .i64 0), (.int .i64 0), (.int .u64 0), (.string (⟨#[]⟩ : ByteArray)), (.int .i64 0), (.int .i64 0)] 93)) (fun p => .pointer (some p)) (want0 rfl) (x_alloc (Try.zeroValue93 _) rfl) ?_
  intro p1 w1 hn8
  replace h := h p1 w1 hn8
  refine wpL_nil ?_
  refine th_n ?_
  refine wpE_seq ?_
  refine rg ?_
  refine q0 (.pointer r1) ?_
  obtain ⟨a1, hp1, h⟩ := h
  refine q2 (.pointer (some a1)) (x_nilCheck (p := r1) (by kernel_rfl) hp1) ?_
  refine q0 (.pointer (some a1)) ?_
  obtain ⟨v1, hv6, h⟩ := h
  refine q2 (.pointer v1) (x_load (a := a1) (by kernel_rfl) (Try.isAgg25 _) hv6) ?_
  refine q0 (.int .i64 t1) ?_
  refine st_call (want0 rfl) (x_callE (args := #[(.pointer v1), (.int .i64 t1)]) Try.call91 (by kernel_rfl)) (h.mono ?_)
  clear h
  rintro e w2 ⟨rKind1, rFrom1, rTo1, rNum1, rText1, rA1, rB1, r2, rfl, h⟩
  refine ⟨_, rfl, ?_⟩
  refine q0 (.tuple #[(.agg #[(.int .i64 rKind1), (.int .i64 rFrom1), (.int .i64 rTo1), (.int .u64 rNum1), (.string rText1), (.int .i64 rA1), (.int .i64 rB1)]), (.bool r2)]) ?_
  refine q0 (.agg #[(.int .i64 rKind1), (.int .i64 rFrom1), (.int .i64 rTo1), (.int .u64 rNum1), (.string rText1), (.int .i64 rA1), (.int .i64 rB1)]) ?_
  refine q0 (.bool r2) ?_
  refine st_new (O := (.cells #[(.int .i64 0), (.int .i64 0), (.int .i64 0), (.int .u64 0), (.string (⟨#[]⟩ : ByteArray)), (.int .i64 0), (.int .i64 0)] 93)) (fun p => .pointer (some p)) (want0 rfl) (x_alloc (Try.zeroValue93 _) rfl) ?_
  intro p2 w3 hn7
  replace h := h p2 w3 hn7
  obtain ⟨hp2, h⟩ := h
  refine st_set (want0 rfl) (x_storeA (a := p2) (vs := [(.int .i64 rKind1), (.int .i64 rFrom1), (.int .i64 rTo1), (.int .u64 rNum1), (.string rText1), (.int .i64 rA1), (.int .i64 rB1)]) (by kernel_rfl) (by kernel_rfl) rfl (Try.sizeOf93 _) rfl hp2) ?_
  intro w4 hn1
  replace h := h w4 hn1
  refine q0 (.bool r2) ?_
  refine wpL_nil ?_
  refine th_n ?_
  refine wpE_seq ?_
  refine wpE_seq ?_
  refine rg ?_
  refine q0 (.bool r2) ?_
  refine q0 (.bool (!r2)) ?_
  refine q0 (.bool (!r2)) ?_
  rcases Bool.eq_false_or_eq_true (!r2) with hg1 | hg1
  · replace h := h.1 hg1
    refine st_not (unwant rfl (yD 20 hg1) rfl) ?_
    refine st_not (unwant rfl (yD 20 hg1) rfl) ?_
    refine st_not (unwant rfl (yD 20 hg1) rfl) ?_
    refine st_not (unwant rfl (yD 20 hg1) rfl) ?_
    refine q2 (.bool true) (x_pickT (b := (!r2)) (by kernel_rfl) hg1 (by kernel_rfl)) ?_
    refine wpL_nil ?_
    refine th_n ?_
    refine wpE_condT (by kernel_rfl) ?_
    refine wpE_seq ?_
    refine rg ?_
    refine q0 (.pointer r1) ?_
    obtain ⟨a2, hp3, h⟩ := h
    refine q2 (.pointer (some a2)) (x_nilCheck (p := r1) (by kernel_rfl) hp3) ?_
    refine q0 (.pointer (some (a2.add 1))) ?_
    obtain ⟨hp4, h⟩ := h
    refine st_set (want0 rfl) (x_store (a := (a2.add 1)) (v := (.bool true)) (by kernel_rfl) (by kernel_rfl) rfl (Try.sizeOf4 _) hp4) ?_
    intro w5 hn2
    replace h := h w5 hn2
    refine wpL_nil ?_
    refine th_n ?_
    refine wpE_seq ?_
    refine rg ?_
    refine q0 (.agg #[(.int .i64 0), (.int .i64 0), (.int .i64 0), (.int .u64 0), (.string (⟨#[]⟩ : ByteArray)), (.int .i64 0), (.int .i64 0)]) ?_
    obtain ⟨hp5, h⟩ := h
    refine st_set (want0 rfl) (x_storeA (a := p1) (vs := [(.int .i64 0), (.int .i64 0), (.int .i64 0), (.int .u64 0), (.string (⟨#[]⟩ : ByteArray)), (.int .i64 0), (.int .i64 0)]) (by kernel_rfl) (by kernel_rfl) rfl (Try.sizeOf93 _) rfl hp5) ?_
    intro w6 hn3
    replace h := h w6 hn3
    refine wpL_nil ?_
    refine th_n ?_
    refine wpE_ret ?_
    refine th_r ?_
    obtain ⟨qKind1, qFrom1, qTo1, qNum1, qText1, qA1, qB1, hv1, h⟩ := h
    refine resG (.inl rfl) (rs := [.cell 6 93]) (vs := [(.agg #[(.int .i64 qKind1), (.int .i64 qFrom1), (.int .i64 qTo1), (.int .u64 qNum1), (.string qText1), (.int .i64 qA1), (.int .i64 qB1)])]) (v := (.agg #[(.int .i64 qKind1), (.int .i64 qFrom1), (.int .i64 qTo1), (.int .u64 qNum1), (.string qText1), (.int .i64 qA1), (.int .i64 qB1)])) Try.results168 ⟨(RV.cellA (A := p1) (vs := [(.int .i64 qKind1), (.int .i64 qFrom1), (.int .i64 qTo1), (.int .u64 qNum1), (.string qText1), (.int .i64 qA1), (.int .i64 qB1)]) (by kernel_rfl) (Try.isAgg93 _) (Try.sizeOf93 _) rfl hv1), trivial⟩ (by kernel_rfl) ?_
    exact ⟨qKind1, qFrom1, qTo1, qNum1, qText1, qA1, qB1, rfl, h⟩
  · replace h := h.2 hg1
    refine q1 (.pointer (some p2)) (want1 rfl (yD 20 hg1)) ?_
    obtain ⟨v2, hv5, h⟩ := h
    refine stp (v := (.int .i64 v2)) (want1 rfl (yD 20 hg1)) (x_load (a := p2) (by kernel_rfl) (Try.isAgg3 _) hv5) ?_
    refine q1 (.int .i64 kind1) (want1 rfl (yD 20 hg1)) ?_
    refine q1 (.bool ((v2 : Int) != kind1)) (want1 rfl (yD 20 hg1)) ?_
    refine q2 (.bool ((v2 : Int) != kind1)) (x_pickF (b := (!r2)) (by kernel_rfl) hg1 (by kernel_rfl)) ?_
    refine wpL_nil ?_
    refine th_n ?_
    refine wpE_cond (t := ((v2 : Int) != kind1)) (by kernel_rfl) (fun hc1 => ?_) (fun hc1 => ?_)
    · replace h := h.1 hc1
      refine wpE_seq ?_
      refine rg ?_
      refine q0 (.pointer r1) ?_
      obtain ⟨a3, hp6, h⟩ := h
      refine q2 (.pointer (some a3)) (x_nilCheck (p := r1) (by kernel_rfl) hp6) ?_
      refine q0 (.pointer (some (a3.add 1))) ?_
      obtain ⟨hp7, h⟩ := h
      refine st_set (want0 rfl) (x_store (a := (a3.add 1)) (v := (.bool true)) (by kernel_rfl) (by kernel_rfl) rfl (Try.sizeOf4 _) hp7) ?_
      intro w7 hn4
      replace h := h w7 hn4
      refine wpL_nil ?_
      refine th_n ?_
      refine wpE_seq ?_
      refine rg ?_
      refine q0 (.agg #[(.int .i64 0), (.int .i64 0), (.int .i64 0), (.int .u64 0), (.string (⟨#[]⟩ : ByteArray)), (.int .i64 0), (.int .i64 0)]) ?_
      obtain ⟨hp8, h⟩ := h
      refine st_set (want0 rfl) (x_storeA (a := p1) (vs := [(.int .i64 0), (.int .i64 0), (.int .i64 0), (.int .u64 0), (.string (⟨#[]⟩ : ByteArray)), (.int .i64 0), (.int .i64 0)]) (by kernel_rfl) (by kernel_rfl) rfl (Try.sizeOf93 _) rfl hp8) ?_
      intro w8 hn5
      replace h := h w8 hn5
      refine wpL_nil ?_
      refine th_n ?_
      refine wpE_ret ?_
      refine th_r ?_
      obtain ⟨qKind2, qFrom2, qTo2, qNum2, qText2, qA2, qB2, hv2, h⟩ := h
      refine resG (.inl rfl) (rs := [.cell 6 93]) (vs := [(.agg #[(.int .i64 qKind2), (.int .i64 qFrom2), (.int .i64 qTo2), (.int .u64 qNum2), (.string qText2), (.int .i64 qA2), (.int .i64 qB2)])]) (v := (.agg #[(.int .i64 qKind2), (.int .i64 qFrom2), (.int .i64 qTo2), (.int .u64 qNum2), (.string qText2), (.int .i64 qA2), (.int .i64 qB2)])) Try.results168 ⟨(RV.cellA (A := p1) (vs := [(.int .i64 qKind2), (.int .i64 qFrom2), (.int .i64 qTo2), (.int .u64 qNum2), (.string qText2), (.int .i64 qA2), (.int .i64 qB2)]) (by kernel_rfl) (Try.isAgg93 _) (Try.sizeOf93 _) rfl hv2), trivial⟩ (by kernel_rfl) ?_
      exact ⟨qKind2, qFrom2, qTo2, qNum2, qText2, qA2, qB2, rfl, h⟩
    · replace h := h.2 hc1
      refine wpE_skip ?_
      refine th_n ?_
      refine wpE_seq ?_
      refine rg ?_
      obtain ⟨vKind1, vFrom1, vTo1, vNum1, vText1, vA1, vB1, hv4, h⟩ := h
      refine q2 (.agg #[(.int .i64 vKind1), (.int .i64 vFrom1), (.int .i64 vTo1), (.int .u64 vNum1), (.string vText1), (.int .i64 vA1), (.int .i64 vB1)]) (x_loadA (a := p2) (vs := [(.int .i64 vKind1), (.int .i64 vFrom1), (.int .i64 vTo1), (.int .u64 vNum1), (.string vText1), (.int .i64 vA1), (.int .i64 vB1)]) (by kernel_rfl) (Try.isAgg93 _) (Try.sizeOf93 _) rfl hv4) ?_
      obtain ⟨hp9, h⟩ := h
      refine st_set (want0 rfl) (x_storeA (a := p1) (vs := [(.int .i64 vKind1), (.int .i64 vFrom1), (.int .i64 vTo1), (.int .u64 vNum1), (.string vText1), (.int .i64 vA1), (.int .i64 vB1)]) (by kernel_rfl) (by kernel_rfl) rfl (Try.sizeOf93 _) rfl hp9) ?_
      intro w9 hn6
      replace h := h w9 hn6
      refine wpL_nil ?_
      refine th_n ?_
      refine wpE_ret ?_
      obtain ⟨qKind3, qFrom3, qTo3, qNum3, qText3, qA3, qB3, hv3, h⟩ := h
      refine resG (.inl rfl) (rs := [.cell 6 93]) (vs := [(.agg #[(.int .i64 qKind3), (.int .i64 qFrom3), (.int .i64 qTo3), (.int .u64 qNum3), (.string qText3), (.int .i64 qA3), (.int .i64 qB3)])]) (v := (.agg #[(.int .i64 qKind3), (.int .i64 qFrom3), (.int .i64 qTo3), (.int .u64 qNum3), (.string qText3), (.int .i64 qA3), (.int .i64 qB3)])) Try.results168 ⟨(RV.cellA (A := p1) (vs := [(.int .i64 qKind3), (.int .i64 qFrom3), (.int .i64 qTo3), (.int .u64 qNum3), (.string qText3), (.int .i64 qA3), (.int .i64 qB3)]) (by kernel_rfl) (Try.isAgg93 _) (Try.sizeOf93 _) rfl hv3), trivial⟩ (by kernel_rfl) ?_
      exact ⟨qKind3, qFrom3, qTo3, qNum3, qText3, qA3, qB3, rfl, h⟩

def m_letter_reader_deal_j1 (r1 : Option Addr) (p1 : Addr) (w : World) (K : Int → ByteArray → World → Prop) : Prop :=
  ∃ C1 : World → Prop, C1 w.drew ∧ ∀ w5, w5 = w.drew →
  ∃ v1 : Int, (∀ w', C1 w' → w'.cell? (p1.add 5) = some (.int .i64 v1)) ∧
  ∃ v2 : Int, (∀ w', C1 w' → w'.cell? (p1.add 6) = some (.int .i64 v2)) ∧
  Calls Try.prog 168 #[(.pointer r1), (.int .i64 v1), (.int .i64 2)] w5 (fun e w6 => ∃ rKind2 : Int, ∃ rFrom2 : Int, ∃ rTo2 : Int, ∃ rNum2 : Int, ∃ rText2 : ByteArray, ∃ rA2 : Int, ∃ rB2 : Int, e = .returned (.agg #[(.int .i64 rKind2), (.int .i64 rFrom2), (.int .i64 rTo2), (.int .u64 rNum2), (.string rText2), (.int .i64 rA2), (.int .i64 rB2)]) ∧ C1 w6 ∧ 
    Calls Try.prog 168 #[(.pointer r1), (.int .i64 v2), (.int .i64 3)] w6 (fun e w7 => ∃ rKind3 : Int, ∃ rFrom3 : Int, ∃ rTo3 : Int, ∃ rNum3 : Int, ∃ rText3 : ByteArray, ∃ rA3 : Int, ∃ rB3 : Int, e = .returned (.agg #[(.int .i64 rKind3), (.int .i64 rFrom3), (.int .i64 rTo3), (.int .u64 rNum3), (.string rText3), (.int .i64 rA3), (.int .i64 rB3)]) ∧ C1 w7 ∧ 
      K rNum2 rText3 w7))
def m_letter_reader_deal (r1 : Option Addr) (t1 : Int) (w : World) (K : Int → ByteArray → World → Prop) : Prop :=
  Calls Try.prog 167 #[(.pointer r1), (.int .i64 t1)] w (fun e w1 => ∃ r2 : ByteArray, ∃ r3 : Int, e = .returned (.tuple #[(.string r2), (.int .i64 r3)]) ∧ 
    Calls Try.prog 168 #[(.pointer r1), (.int .i64 r3), (.int .i64 4)] w1 (fun e w2 => ∃ rKind1 : Int, ∃ rFrom1 : Int, ∃ rTo1 : Int, ∃ rNum1 : Int, ∃ rText1 : ByteArray, ∃ rA1 : Int, ∃ rB1 : Int, e = .returned (.agg #[(.int .i64 rKind1), (.int .i64 rFrom1), (.int .i64 rTo1), (.int .u64 rNum1), (.string rText1), (.int .i64 rA1), (.int .i64 rB1)]) ∧ 
      ∀ (p1 : Addr) (w3 : World), New w2 (.cells #[(.int .i64 0), (.int .i64 0), (.int .i64 0), (.int .u64 0), (.string (⟨#[]⟩ : ByteArray)), (.int .i64 0), (.int .i64 0)] 93) p1 w3 →
      (∀ j, j < 7 → CanW w3 (p1.add j)) ∧ ∀ w4 : World, w4 = storeRow w3 p1 [(.int .i64 rKind1), (.int .i64 rFrom1), (.int .i64 rTo1), (.int .u64 rNum1), (.string rText1), (.int .i64 rA1), (.int .i64 rB1)] →
      ∃ a1 : Addr, r1 = some a1 ∧
      ∃ v3 : Bool, w4.cell? (a1.add 1) = some (.bool v3) ∧
      Br v3
        (∃ a2 : Addr, r1 = some a2 ∧
        CanW w4 (a2.add 1) ∧ ∀ w8 : World, w8 = w4.setCell (a2.add 1) (.bool true) →
        m_letter_reader_deal_j1 r1 p1 w8 K)
        (∃ a3 : Addr, r1 = some a3 ∧
        CanW w4 (a3.add 1) ∧ ∀ w9 : World, w9 = w4.setCell (a3.add 1) (.bool (!(decide (r2 = (⟨#[100, 101, 97, 108]⟩ : ByteArray))))) →
        m_letter_reader_deal_j1 r1 p1 w9 K)))
set_option maxRecDepth 100000 in
set_option maxHeartbeats 4000000 in
theorem w_letter_reader_deal (r1 : Option Addr) (t1 : Int) (w : World) (K : Int → ByteArray → World → Prop) (h : m_letter_reader_deal r1 t1 w K) :
    Calls Try.prog 218 #[(.pointer r1), (.int .i64 t1)] w (fun e w' => ∃ r4 : Int, ∃ r5 : ByteArray, e = .returned (.tuple #[(.int .u64 r4), (.string r5)]) ∧ K r4 r5 w') := by
  unfold m_letter_reader_deal at h
  refine calls_of_wpE (args := [(.pointer r1), (.int .i64 t1)]) Try.func218 rfl Try.ntmps218 (Nat.le_of_ble_eq_true rfl) ?_
  refine wpE_seq ?_
  refine rg ?_
  refine q0 (.int .u64 0) ?_
  refine q0 (.string (⟨#[]⟩ : ByteArray)) ?_
  refine wpL_nil ?_
  refine th_n ?_
  refine wpE_seq ?_
  refine rg ?_
  refine q0 (.pointer r1) ?_
  refine q0 (.int .i64 t1) ?_
  refine st_call (want0 rfl) (x_callE (args := #[(.pointer r1), (.int .i64 t1)]) Try.call167 (by kernel_rfl)) (h.mono ?_)
  clear h
  rintro e w1 ⟨r2, r3, rfl, h⟩
  refine ⟨_, rfl, ?_⟩
  refine q0 (.tuple #[(.string r2), (.int .i64 r3)]) ?_
  refine q0 (.string r2) ?_
  refine q0 (.int .i64 r3) ?_
  refine q0 (.string r2) ?_
  refine q0 (.int .i64 r3) ?_
  refine wpL_nil ?_
  refine th_n ?_
  refine wpE_seq ?_
  refine rg ?_
  refine q0 (.pointer r1) ?_
  refine q0 (.int .i64 r3) ?_
  refine st_call (want0 rfl) (x_callE (args := #[(.pointer r1), (.int .i64 r3), (.int .i64 4)]) Try.call168 (by kernel_rfl)) (h.mono ?_)
  clear h
  rintro e w2 ⟨rKind1, rFrom1, rTo1, rNum1, rText1, rA1, rB1, rfl, h⟩
  refine ⟨_, rfl, ?_⟩
  refine st_new (O := (.cells #[(.int .i64 0), (.int .i64 0), (.int .i64 0), (.int .u64 0), (.string (⟨#[]⟩ : ByteArray)), (.int .i64 0), (.int .i64 0)] 93)) (fun p => .pointer (some p)) (want0 rfl) (x_alloc (Try.zeroValue93 _) rfl) ?_
  intro p1 w3 hn4
  replace h := h p1 w3 hn4
  obtain ⟨hp1, h⟩ := h
  refine st_set (want0 rfl) (x_storeA (a := p1) (vs := [(.int .i64 rKind1), (.int .i64 rFrom1), (.int .i64 rTo1), (.int .u64 rNum1), (.string rText1), (.int .i64 rA1), (.int .i64 rB1)]) (by kernel_rfl) (by kernel_rfl) rfl (Try.sizeOf93 _) rfl hp1) ?_
  intro w4 hn1
  replace h := h w4 hn1
  refine wpL_nil ?_
  refine th_n ?_
  refine wpE_join (fun ρ w => Has ρ [(0, (.pointer r1)), (8, (.pointer (some p1)))] ∧ m_letter_reader_deal_j1 r1 p1 w K) ?_ ?_
  · rintro ρ w ⟨hH, h⟩
    unfold m_letter_reader_deal_j1 at h
    refine wpE_has hH ?_
    clear hH
    refine wpE_seq ?_
    obtain ⟨C1, hC, h⟩ := h
    refine wpE_drawnC C1 [3, 8] [] (by kernel_rfl) (by kernel_rfl) (by kernel_rfl) (by kernel_rfl) hC ?_
    clear hC
    intro w5 hw5
    replace h := h w5 hw5
    refine qx 0 (.pointer r1) Kp0 ?_
    refine qx 1 (.pointer (some (p1.add 5))) Kp1 ?_
    refine qgo (k := 2) (by kernel_rfl) ?_
    obtain ⟨v1, hv2, h⟩ := h
    refine sx (v := (.int .i64 v1)) Kp2 (want0 rfl) (by kernel_rfl) (fun w' hw' => (x_load (a := (p1.add 5)) (by kernel_rfl) (Try.isAgg41 _) (hv2 w' hw'))) ?_
    refine qx 5 (.pointer r1) Kp5 ?_
    refine qx 6 (.pointer (some (p1.add 6))) Kp6 ?_
    refine qgo (k := 7) (by kernel_rfl) ?_
    obtain ⟨v2, hv1, h⟩ := h
    refine sx (v := (.int .i64 v2)) Kp7 (want0 rfl) (by kernel_rfl) (fun w' hw' => (x_load (a := (p1.add 6)) (by kernel_rfl) (Try.isAgg41 _) (hv1 w' hw'))) ?_
    refine lgo (k := 3) (by kernel_rfl) ?_
    refine sl_call Kp3 (want0 rfl) (by kernel_rfl) (x_callE (args := #[(.pointer r1), (.int .i64 v1), (.int .i64 2)]) Try.call168 (by kernel_rfl)) (h.mono ?_)
    clear h
    rintro e w6 ⟨rKind2, rFrom2, rTo2, rNum2, rText2, rA2, rB2, rfl, hC, h⟩
    refine ⟨_, rfl, .inr hC, ?_⟩
    refine qx 4 (.int .u64 rNum2) Kp4 ?_
    refine lgo (k := 8) (by kernel_rfl) ?_
    refine sl_call Kp8 (want0 rfl) (by kernel_rfl) (x_callE (args := #[(.pointer r1), (.int .i64 v2), (.int .i64 3)]) Try.call168 (by kernel_rfl)) (h.mono ?_)
    clear h
    rintro e w7 ⟨rKind3, rFrom3, rTo3, rNum3, rText3, rA3, rB3, rfl, hC, h⟩
    refine ⟨_, rfl, .inr hC, ?_⟩
    refine qx 9 (.string rText3) Kp9 ?_
    refine qx 10 (.int .u64 rNum2) (pickA (pickS (pickS (pickS (pickS (pickS (pickS (pickS (pickS (pickS (pickS pickZ))))))))))) ?_
    refine qx 11 (.string rText3) (pickA (pickS (pickS (pickS (pickS (pickS (pickS (pickS (pickS (pickS (pickS (pickS pickZ)))))))))))) ?_
    refine wpX_nil (by kernel_rfl) ?_
    refine th_n ?_
    refine wpE_ret ?_
    refine res2 (.inl rfl) Try.results218 (v := (.int .u64 rNum2)) (by kernel_rfl) (v' := (.string rText3)) (by kernel_rfl) ?_
    exact ⟨rNum2, rText3, rfl, h⟩
  · skip
    refine rg ?_
    refine q0 (.pointer r1) ?_
    refine q0 (.pointer r1) ?_
    obtain ⟨a1, hp2, h⟩ := h
    refine q2 (.pointer (some a1)) (x_nilCheck (p := r1) (by kernel_rfl) hp2) ?_
    refine q0 (.pointer (some (a1.add 1))) ?_
    obtain ⟨v3, hv3, h⟩ := h
    refine q2 (.bool v3) (x_load (a := (a1.add 1)) (by kernel_rfl) (Try.isAgg4 _) hv3) ?_
    refine q0 (.bool v3) ?_
    rcases Bool.eq_false_or_eq_true v3 with hg1 | hg1
    · replace h := h.1 hg1
      refine st_not (unwant rfl (yD 23 hg1) rfl) ?_
      refine st_not (unwant rfl (yD 23 hg1) rfl) ?_
      refine q2 (.bool true) (x_pickT (b := v3) (by kernel_rfl) hg1 (by kernel_rfl)) ?_
      obtain ⟨a2, hp3, h⟩ := h
      refine q2 (.pointer (some a2)) (x_nilCheck (p := r1) (by kernel_rfl) hp3) ?_
      refine q0 (.pointer (some (a2.add 1))) ?_
      obtain ⟨hp4, h⟩ := h
      refine st_set (want0 rfl) (x_store (a := (a2.add 1)) (v := (.bool true)) (by kernel_rfl) (by kernel_rfl) rfl (Try.sizeOf4 _) hp4) ?_
      intro w8 hn2
      replace h := h w8 hn2
      refine wpL_nil ?_
      refine th_n ?_
      exact ⟨Has.mk (by kernel_rfl), h⟩
    · replace h := h.2 hg1
      refine q1 (.string r2) (want1 rfl (yD 23 hg1)) ?_
      refine stp (v := (.bool (!(decide (r2 = (⟨#[100, 101, 97, 108]⟩ : ByteArray)))))) (want1 rfl (yD 23 hg1)) (x_strneq (by kernel_rfl) (by kernel_rfl)) ?_
      refine q2 (.bool (!(decide (r2 = (⟨#[100, 101, 97, 108]⟩ : ByteArray))))) (x_pickF (b := v3) (by kernel_rfl) hg1 (by kernel_rfl)) ?_
      obtain ⟨a3, hp5, h⟩ := h
      refine q2 (.pointer (some a3)) (x_nilCheck (p := r1) (by kernel_rfl) hp5) ?_
      refine q0 (.pointer (some (a3.add 1))) ?_
      obtain ⟨hp6, h⟩ := h
      refine st_set (want0 rfl) (x_store (a := (a3.add 1)) (v := (.bool (!(decide (r2 = (⟨#[100, 101, 97, 108]⟩ : ByteArray)))))) (by kernel_rfl) (by kernel_rfl) rfl (Try.sizeOf4 _) hp6) ?_
      intro w9 hn3
      replace h := h w9 hn3
      refine wpL_nil ?_
      refine th_n ?_
      exact ⟨Has.mk (by kernel_rfl), h⟩
end Go.Proofs
